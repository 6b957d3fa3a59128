/-
  Part of the proof: the machine that runs a program by fixed orders, and that each of its runs is a run of the model; or a run of it in parts. No conditions.
-/
import Derived.Test.YtfnfimeefeigdaaGreatDoorIdDrawn
import Derived.Test.YtfnfimeefeigdaaGreatDoorIdVec
import Derived.Defers
import Derived.Recover
noncomputable section
namespace Go.AD
section
variable {X:Ctx} {base:Env} {W0:World} {μ:Ae} {H:AA} {W:World}
theorem Wl (hok:ET X base W0) (hplan:HJ X) {c c':BT} {fr:Frame} {cs' cs0:List Frame} (hm:JL X base W0 μ c fr cs' W) (h:FD X c=some c'):
 C4 X base W0 cs0 c' (lone fr (cs'++cs0) W):=by
 obtain⟨hH,hlaid,g,gs,hfr,hcs,hnd⟩:=hm;obtain⟨f0,cs,H⟩:=c;simp only at hH hfr hcs;cases hfr with
 | drawn fn t n tm ops BJ idx D G k k' ds ds' kd rd rd' hD hk hd hr=>exact bZ hok hH hlaid hD hk hd hr hcs hnd h
 | plain fn t n tm todo todo' ds ds' r kd rd rd' ht hi hd hrd=>
  unfold FD at h;simp only at h;cases r with
  | true=>
   simp only[C8]at h;exact VW hH hlaid ht hi hd hrd hcs hnd h
  | false=>
   simp only[EB]at h;have fin:∀(k2:List B9) (k2':List Item) ,EU μ k2 k2'->step X.P (lone ⟨fn,tm,todo',ds',.run,kd,rd'⟩ (cs'++cs0) W)= .next (lone ⟨fn,tm,k2',ds',.run,kd,rd'⟩ (cs'++cs0) W)->
    c'=⟨⟨fn,t,n,k2,ds,false,kd,rd⟩,cs,H⟩->C4 X base W0 cs0 c' (lone ⟨fn,tm,todo',ds',UI false,kd,rd'⟩ (cs'++cs0) W):=by
    rintro k2 k2' hk2 hs rfl;exact⟨μ,_,cs',W,.one hs,hH,hlaid,[],gs,.plain fn t n tm k2 k2' ds ds' false kd rd rd' ht hk2 hd hrd,hcs,hnd⟩
   cases hi with
   | nil=>exact MW hH hlaid ht .nil hd hrd hcs hnd (.inl ⟨rfl,rfl⟩) h
   | @cons it it' k k' h1 hk=>
    simp only at h;cases h1 with
    | Kr ops l idx hidx=>
     simp only at h;split at h
     ·cases idx with
      | nil=>exact fin k k' hk On (by cases h;rfl)
      | cons i idx=>simp at hidx
     ·rename_i o rest;cases idx with
      | nil=>simp at hidx
      | cons i idx=>
       simp only[Sm,Nh]at hidx;split at h
       ·rename_i hw;refine U7 hok hH hlaid hidx.1 hd hrd hcs hnd (fun ds1 ds1' hd1=> .plain fn t n tm _ _ ds1 ds1' false kd rd rd' ht (.cons (.Kr ops _ _ (by simp[hidx.1,hidx.2])) hk) hd1 hrd) (fun x _=>Mj hlaid ht x) (MR ht hw) h
       ·rename_i hw;split at h
        ·rename_i fr1 hfin;cases h
         refine⟨μ,_,cs',W,.one (P5 hidx.1 (MR ht hw)),hH,hlaid,[],gs,?_,hcs,hnd⟩;exact Dl (.plain fn t n tm _ _ ds ds' false kd rd rd' ht (.cons (.Kr ops (o::rest) (i::idx) (by simp[hidx.1,hidx.2])) hk) hd hrd) (AH.undef μ) hfin
        ·cases h
       ·cases h
    | code c=>
     simp only at h;split at h
     ·rename_i a b;exact fin _ _ (.cons (.code a) (.cons (.code b) hk)) wi (by cases h;rfl)
     ·rename_i id ops;exact fin _ _ (.cons (.Kr ops ops.toList _ (cF ops)) hk) kz (by cases h;rfl)
     ·rename_i id ops;split at h
      ·rename_i p hp;cases h
       obtain⟨hmix,hpl⟩:=hplan;obtain⟨q1,q2,q3⟩:=hpl ops p hp;obtain⟨s1,s2⟩:=fG q2 q3 (W.tape W.drawn (.order fn id));have hdr:=rI (P:=X.P) (W:=W) (fn:=fn) (tm:=tm) (k:=k') (ds:=ds') (kd:=kd) (rd:=rd') (cs:=cs'++cs0) (id:=id) (ops:=ops);rw[hmix]at hdr;refine⟨μ,_,cs',_,.one hdr,hH.drawn _,hlaid,[],gs,?_,hcs,hnd⟩;refine .drawn fn t n tm ops p _ [] [] k k' ds ds' kd rd rd' ⟨q1,q2,q3,s1,fun i o ho hni=>absurd (s2 i (Array.getElem?_eq_some_iff.1 ho).1) hni,(fun _ _ _ h=>by cases h),ht.1,fun u _=>ht.2 u,(fun _ _ _ h=>by cases h),(fun _ _ _ _ h=>by cases h),by simp,fun b hb=>by simp at hb⟩ hk hd hrd
      ·cases h
     ·rename_i cnd a b;have hev:=Mj (fr:=⟨fn,tm,.code (.cond cnd a b)::k',ds',.run,kd,rd'⟩) hlaid ht cnd;split at h
      ·rename_i x hx;rw[hx]at hev;have hev':Frame.eval ⟨fn,tm,.code (.cond cnd a b)::k',ds',.run,kd,rd'⟩ cnd= .bool x:=by
        generalize Frame.eval ⟨fn,tm,.code (.cond cnd a b)::k',ds',.run,kd,rd'⟩ cnd=q at hev;cases hev;rfl
       exact fin _ _ (.cons (.code _) hk) (so hev') (by cases h;rfl)
      ·cases h
     ·exact fin _ _ hk uR (by cases h;rfl)
     ·exact fin _ _ hk la (by cases h;rfl)
     ·rename_i id b;exact fin _ _ (.cons (.code b) (.cons (.inBlock id) hk)) mf (by cases h;rfl)
     ·rename_i b;exact fin _ _ (.cons (.code b) (.cons (.inLoop b) hk)) uJ (by cases h;rfl)
     ·rename_i b;exact fin _ _ (.cons (.code b) (.cons (.inScope b) hk)) oW (by cases h;rfl)
     ·rename_i id;have hex:=Yv (id:=id) hk;split at h
      ·rename_i k2 hq;obtain⟨k2',q1,q2⟩:=hex.1 k2 hq;exact fin _ _ q2 (sC q1) (by cases h;rfl)
      ·rename_i hq;exact MW hH hlaid ht (.cons (.code _) hk) hd hrd hcs hnd (.inr (.inr ⟨id,k',rfl,hex.2 hq,rfl⟩)) h
     ·exact MW hH hlaid ht (.cons (.code _) hk) hd hrd hcs hnd (.inr (.inl ⟨k',rfl,rfl⟩)) h
     ·rename_i f ps a b;split at h
      ·rename_i l;cases hrd with
       | some _ T hT=>
        split at h
        ·rename_i q hget;obtain⟨o',ho',hor⟩:=hH.obj l _ hget T hT;cases hor with
         | loop _ aa R hta hda=>
          have hal:=hH.alloc (T:=⟨W.heap.size,0,0,0⟩) (o:= .loop ⟨.ready,none,fn,t,n,ps,a,b,q.defers⟩) rfl (.loop ⟨W.heap.size,0,0,0⟩ ⟨.ready,none,fn,t,n,ps,a,b,q.defers⟩ tm R ht hda);obtain⟨g1,g2⟩:=hal;refine Li hok (mark:=[]) (T:=⟨W.heap.size,0,0,0⟩) g1 (hlaid.mono g2.le) (ht.mono g2.le) (hk.mono g2.le) (hd.mono g2.le) (.some l T (g2.le _ _ hT)) (hcs.mono (g2.keeps gs)) hnd (Ae.Af _ _ _) (QB ho') h
        ·cases h
      ·cases hrd
       have hal1:=hH.alloc (T:=⟨W.heap.size,0,0,0⟩) (o:= .deferred (some [])) (o':= .deferred (some [])) rfl (.deferred _ [] [] .nil);obtain⟨g1,g2⟩:=hal1;have hal2:=g1.alloc (T:=⟨W.heap.size+1,0,0,0⟩) (o:= .loop ⟨.ready,none,fn,t,n,ps,a,b,H.next⟩) (by simp) (.loop ⟨W.heap.size+1,0,0,0⟩ ⟨.ready,none,fn,t,n,ps,a,b,H.next⟩ tm ⟨W.heap.size,0,0,0⟩ (ht.mono g2.le) (Ae.Af _ _ _));obtain⟨g3,g4⟩:=hal2;have g5:=g2.trans g4;refine Li hok (mark:=[{ target:= .collected W.heap.size,args:=#[] }]) (T:=⟨W.heap.size+1,0,0,0⟩) g3 (hlaid.mono g5.le) (ht.mono g5.le) (hk.mono g5.le) ?_ .none (hcs.mono (g5.keeps gs)) hnd (Ae.Af _ _ _) Rf h;exact .cons ⟨.collected H.next ⟨W.heap.size,0,0,0⟩ (g4.le _ _ (Ae.Af _ _ _)),.nil⟩ (hd.mono g5.le)
     ·cases h
    | inBlock id=>exact fin _ _ hk bo (by cases h;rfl)
    | inScope b=>exact fin _ _ hk bp (by cases h;rfl)
    | inLoop b=>exact fin _ _ (.cons (.code b) (.cons (.inLoop b) hk)) fZ (by cases h;rfl)
    | inRangeFunc l T hT=>cases h
    | beginRound=>
     simp only at h;split at h
     ·rename_i l;cases hrd with
      | some _ T hT=>
       split at h
       ·rename_i q hget;split at h
        ·rename_i hst;cases h
         obtain⟨r,hr,hst',hpe,hput⟩:=Qt hH hget hT;obtain⟨p1,p2⟩:=hput .busy q.pending;refine⟨μ,_,cs',_,.one (UK hr (by rw[hst',hst])),?_,hlaid,[],gs,.plain fn t n tm k k' ds ds' false kd (some l) (some T.c) ht hk hd (.some l T hT),hcs.mono (p2.keeps gs),hnd⟩;have e1:({ r with state:=LoopState.busy }:Loop)={ r with state:= .busy,pending:=q.pending }:=by rw[<-hpe]
         rw[e1];exact p1
        ·cases h
       ·cases h
     ·cases h
    | endRangeFunc l T hT=>
     simp only at h;split at h
     ·rename_i q hget;obtain⟨r,hr,hst',hpe,hput⟩:=Qt hH hget hT;obtain⟨p1,p2⟩:=hput .exhausted q.pending;have p1':AJ base W0 μ (H.put l (.loop { q with state:= .exhausted })) { W with heap:=W.heap.setIfInBounds T.c (.loop { r with state:= .exhausted }) }:=by
       have e1:({ r with state:=LoopState.exhausted }:Loop)={ r with state:= .exhausted,pending:=q.pending }:=by rw[<-hpe]
       rw[e1];exact p1
      split at h
      ·cases h
      ·rename_i hnb;have hs:r.state≠ .busy:=by rw[hst'];exact hnb
       have hce:=dj (P:=X.P) (fn:=fn) (tm:=tm) (k:=k') (ds:=ds') (kd:=kd) (rd:=rd') (cs:=cs'++cs0) hr hs;split at h
       ·rename_i hp;cases h
        have htd:(r.pending.map Item.code).toList++k'=k':=by rw[hpe,hp];rfl
        rw[htd]at hce;exact⟨μ,_,cs',_,.one hce,p1',hlaid,[],gs,.plain fn t n tm k k' ds ds' false kd rd rd' ht hk hd hrd,hcs.mono (p2.keeps gs),hnd⟩
       ·rename_i j hp;cases h
        have htd:(r.pending.map Item.code).toList++k'= .code j::k':=by rw[hpe,hp];rfl
        rw[htd]at hce;exact⟨μ,_,cs',_,.one hce,p1',hlaid,[],gs,.plain fn t n tm _ _ ds ds' false kd rd rd' ht (.cons (.code j) hk) hd hrd,hcs.mono (p2.keeps gs),hnd⟩
     ·cases h
end
section
variable {X:Ctx} {base:Env} {W0:World} {μ:Ae} {H:AA} {W:World}
theorem cY (n:Nat) (c:BT):fQ X (n+1) c=match FD X c with
 | some c'=>fQ X n c'
 | none=>none:=rfl
theorem oZ (hok:ET X base W0) (hplan:HJ X) {cs0:List Frame}:∀(n:Nat) (c c':BT) (μ:Ae) (fr:Frame) (cs:List Frame) (W:World),fQ X n c=some c'->JL X base W0 μ c fr cs W->
 ∃μ' fr1 cs1 W1,Steps X.P (lone fr (cs++cs0) W) (lone fr1 (cs1++cs0) W1)/\JL X base W0 μ' c' fr1 cs1 W1:=by
 intro n;induction n with
 | zero=>intro c c' μ fr cs W h hm;cases h;exact⟨μ,fr,cs,W,.refl _ _,hm⟩
 | succ n ih=>
  intro c c' μ fr cs W h hm;rw[cY]at h;split at h
  ·rename_i c1 hs;obtain⟨μ1,fr1,cs1,W1,s1,m1⟩:=Wl (cs0:=cs0) hok hplan hm hs;obtain⟨μ2,fr2,cs2,W2,s2,m2⟩:=ih c1 c' μ1 fr1 cs1 W1 h m1;exact⟨μ2,fr2,cs2,W2,s1.trans s2,m2⟩
  ·cases h
def FC (X:Ctx) (f:FuncId) (c:BT):Option (Value × AA):=
 match c with
 | ⟨⟨fn,t,_,todo,ds,r,kd,_⟩,cs,H⟩=>
  match cs,ds,r,kd,todo with
  | [],[],true,.normal,_=>bif Nat.beq fn f then
   match Kl X fn t H with
   | some v=>some (v,H)
   | none=>none
   else none
  | _,_,_,_,_=>none
def Em (f:FuncId) (t:Tr Value) (n:Nat) (code:Code) (H:AA):BT:=⟨⟨f,t,n,[.code code],[],false,.normal,none⟩,[],H⟩
theorem Kp (hH:AJ base W0 μ H W) (hlaid:Bj X μ) {f:FuncId} {n:Nat} {code:Code} (he:entry X.P f=some (n,code)) {args:AL} {args':BR} (ha:Am μ args args'.toList) (hn:args.length<=n):
 JL X base W0 μ (Em f (CM 0 args .leaf) n code H) (Frame.enter X.P f args' .normal) [] W:=by
 refine⟨hH,hlaid,[],[],?_,.nil,by simp⟩;rw[RO he];exact .plain f _ n _ _ _ [] [] false .normal none none (OI ha hn) (.cons (.code code) .nil) .nil .none
theorem KR {f:FuncId} {c:BT} {fr:Frame} {cs:List Frame} {v:Value} {H':AA} (hm:JL X base W0 μ c fr cs W) (hd:FC X f c=some (v,H')):
 cs=[]/\fr.fn=f/\∃v',fr.leaving X.P W (.returned v')/\AJ base W0 μ H' W/\AH μ v v':=by
 obtain⟨hH,hlaid,g,gs,hfr,hcs,hnd⟩:=hm;unfold FC at hd;obtain⟨⟨fn,t,n,todo,ds,r,kd,rd⟩,cs1,H1⟩:=c;simp only at hd hfr hcs hH;split at hd
 ·rename_i x1 x2 x3 x4 x5;cases hcs
  cases hb:Nat.beq fn f
  ·simp[hb]at hd
  ·simp only[hb,C8]at hd;have hf:=DN hb;split at hd
   ·rename_i v0 hres;cases hd
    cases hfr with
    | plain _ _ _ tm _ todo' _ ds' _ _ _ rd' ht hi hdd hr=>
     cases hdd
     obtain⟨fn',v',h1,h2,h3⟩:=PC hH ht hres;exact⟨rfl,hf,v',⟨rfl,rfl,rfl,fn',h1,h2⟩,hH,h3⟩
   ·cases hd
 ·cases hd
def KP:Co->Nat->AA
 | [],n=>⟨.leaf,n⟩
 | (g,cs)::r,n=>(KP r n).put g (.cells cs 0 true)
def Gb (l:Co):Ae:=fun b=>match l.find? (fun p=>Nat.beq b p.1)with
 | some p=>some ⟨p.1,0,p.2.length,0⟩
 | none=>none
theorem Hu (l:Co) (n:Nat):(KP l n).next=n:=by
 induction l with
 | nil=>rfl
 | cons p l ih=>exact ih
theorem I3:∀(l:Co) (n b:Nat) (o:AP),(l.map Prod.fst).Nodup->(KP l n).get b=some o->∃cs,(b,cs)∈l/\o= .cells cs 0 true:=by
 intro l;induction l with
 | nil=>intro n b o _ h;simp[KP,AA.get,Tr.RI]at h
 | cons p l ih=>
  intro n b o hnd h;obtain⟨g,cs⟩:=p;simp only[KP]at h;rw[AA.AU]at h;simp only[Sm,lW]at hnd
  by_cases e:b=g
  ·subst e;rw[MB rfl]at h;cases h;exact⟨cs,by simp,rfl⟩
  ·rw[JT e]at h;obtain⟨cs',h1,h2⟩:=ih n b o hnd.2 h;exact⟨cs',by simp[h1],h2⟩
theorem LH {l:Co} (_hnd:(l.map Prod.fst).Nodup) {b:Nat} {T:Bc} (h:Gb l b=some T):∃cs,(b,cs)∈l/\T=⟨b,0,cs.length,0⟩:=by
 unfold Gb at h;split at h
 ·rename_i p hp;cases h
  have h1:=List.find?_some hp;have h2:=ABK hp;have e:=DN h1;obtain⟨g,cs⟩:=p;simp only at e;subst e;exact⟨cs,h2,rfl⟩
 ·cases h
theorem mem_unique {l:Co} (hnd:(l.map Prod.fst).Nodup) {b:Nat} {x y:AL} (h1:(b,x)∈l) (h2:(b,y)∈l):x=y:=by
 induction l with
 | nil=>cases h1
 | cons p l ih=>
  simp only[Sm,lW]at hnd;rcases List.mem_cons.1 h1 with e1 | h1'<;>rcases List.mem_cons.1 h2 with e2 | h2'
  ·rw[<-e1]at e2;cases e2;rfl
  ·exact absurd (List.mem_map.2 ⟨_,h2',rfl⟩) (by rw[<-e1]at hnd;exact hnd.1)
  ·exact absurd (List.mem_map.2 ⟨_,h1',rfl⟩) (by rw[<-e2]at hnd;exact hnd.1)
  ·exact ih hnd.2 h1' h2'
theorem Hy:∀(l:AL),l.all flat=true->Am μ l l
 | [],_=> .nil
 | a::l,h=>by
  simp only[lf,Dg]at h;exact .cons (D5 h.1) (Hy l h.2)
theorem O2.rel {l l':AL} (h:O2 l l') (μ:Ae):Am μ l l':=by
 cases h with
 | plain _ hf=>exact Hy _ hf
 | iface te pe=>exact .cons (.Bv _) .nil
theorem QD (hW:Eb X base W0) (hmu:base.jK.le (Gb X.laid)) (hsz:∀i,base.K i->i < W0.heap.size) {n:Nat} (hn:∀p∈X.laid,p.1 < n):AJ base W0 (Gb X.laid) (KP X.laid n) W0/\Bj X (Gb X.laid):=by
 obtain⟨hnd,hall⟩:=hW;refine⟨⟨?_,?_,?_,?_,?_,hsz,fun _ _=>rfl,rfl,rfl,?_,hmu,GO _⟩,?_⟩
 ·intro b o hb T hT;obtain⟨cs,h1,rfl⟩:=I3 _ _ _ _ hnd hb;obtain⟨cs',h2,rfl⟩:=LH hnd hT;obtain rfl:=mem_unique hnd h1 h2;obtain⟨_,a,t,fz,ha,hl⟩:=hall _ h1;have hrel:=hl.rel (Gb X.laid);have hlen:=hrel.length;have hlen:cs.length=a.toList.length:=hlen;refine⟨_,ha,.cells _ _ _ true a t fz.1 fz.2 rfl ?_ ?_ (fun e=>by cases e)⟩
  ·show Am _ cs (List.take cs.length (List.drop 0 a.toList));rw[bl,hlen,qs];exact hrel
  ·have hlen:cs.length=a.toList.length:=hlen;have e:a.toList.length=a.size:=rfl;show a.size=0+cs.length;omega
 ·intro b o hb hr T hT;obtain⟨cs,h1,rfl⟩:=I3 _ _ _ _ hnd hb;cases hr
 ·intro b1 b2 o1 o2 _ _ T1 T2 h1 h2 _ _ hc;obtain⟨_,_,rfl⟩:=LH hnd h1;obtain⟨_,_,rfl⟩:=LH hnd h2;exact fun _=>hc
 ·intro b hb;rw[Hu]at hb;refine⟨?_,?_⟩
  ·cases hg:(KP X.laid n).get b with
   | none=>rfl
   | some o=>
    obtain⟨cs,h1,_⟩:=I3 _ _ _ _ hnd hg;have:=hn _ h1;simp only at this;omega
  ·cases hg:Gb X.laid b with
   | none=>rfl
   | some T=>
    obtain⟨cs,h1,_⟩:=LH hnd hg;have:=hn _ h1;simp only at this;omega
 ·intro b T hT;obtain⟨cs,h1,rfl⟩:=LH hnd hT;exact hsz _ (hall _ h1).1
 ·refine⟨fun _ _=>False,?_,?_⟩
  ·intro b a ro T hb;obtain⟨cs,h1,e⟩:=I3 _ _ _ _ hnd hb;cases e
  ·intro b a ro T hb;obtain⟨cs,h1,e⟩:=I3 _ _ _ _ hnd hb;cases e
 ·intro g hg;obtain⟨p,hp,he⟩:=List.any_eq_true.1 hg;have e:=DN he;cases hm:Gb X.laid g with
  | none=>
   unfold Gb at hm;split at hm
   ·cases hm
   ·rename_i hf;rw[List.find?_eq_none]at hf;exact absurd he (hf p hp)
  | some T=>
   obtain⟨cs,h1,rfl⟩:=LH hnd hm;exact⟨_,rfl,rfl,rfl,rfl,fun _ h'=>congrArg List.length (mem_unique hnd h1 h')⟩
def Env.at (base:Env) (W:World):Env:={ base with K:=fun i=>i < W.heap.size,jK:=fun _=>none }
theorem none_le (μ:Ae):Ae.le (fun _=>none) μ:=fun _ _ h=>by cases h
theorem AJ.carry {W':World} (h:AJ base W0 μ H W) (hs:W.heap.size<=W'.heap.size) (hold:∀i,i < W.heap.size->W'.heap[i]? = W.heap[i]?) (ho:W'.output=W.output) (hos:W'.os=W.os):AJ base W0 μ H W':=
 ⟨fun b o hb T hT=>let ⟨o',h1,h2⟩:=h.obj b o hb T hT;⟨o',by rw[hold _ (h.bound b T hT)];exact h1,h2⟩,h.own,h.inj,h.fresh,fun b T hT=>nI (h.bound b T hT) hs,fun i hi=>nI (h.size i hi) hs,
  fun i hi=>by rw[hold i (h.size i hi)];exact h.below i hi,by rw[ho];exact h.out,by rw[hos];exact h.os,
  let ⟨φ,q⟩:=h.abs;⟨φ,fun b a ro T h1 h2=>let ⟨r1,r2⟩:=q.rep b a ro T h1 h2;⟨GB.loc _ _ _ _ _ hs r1 (fun i hi=>hold i ((GB.JA _ _ _ _ r1).2 i hi)),r2⟩,q.DG⟩,h.le,wQ h.grow hs⟩
theorem Eb.carry (hW:Eb X base W0) (h:AJ base W0 μ H W):Eb X (base.at W) W:=by
 refine⟨hW.1,fun p hp=>?_⟩;obtain⟨h1,a,t,fz,h3,h4⟩:=hW.2 p hp;exact⟨h.size _ h1,a,t,fz,by rw[h.below _ h1];exact h3,h4⟩
theorem Mo {b0:Env} {W W':World} {μ':Ae} {H':AA} (h:AJ (b0.at W) W μ' H' W'):W.heap.size<=W'.heap.size:=h.grow
end
theorem ot {P:Program} {ops:Array Oper} {done:AW} {x:Oper}:Iw ops (Za P ops.toList done x):=by
 intro e he;unfold Za at he;obtain⟨j,_,hj⟩:=List.mem_filterMap.1 he;split at hj
 ·rename_i o ho;cases hb:(Nat.beq (CA P o) 0&& !((Jx ops.toList x).any (Nat.beq j)))
  ·rw[hb]at hj;cases hj
  ·rw[hb]at hj;cases hj
   show ops[j]? = some o;rw[<-Wt];exact ho
 ·cases hj
theorem da {P:Program} {ops:Array Oper}:∀(f:Nat) (done:AW) (p:List PE),OS P ops.toList f done=some p->Iw ops p:=by
 have key:∀{q:Oper × Nat->Bool} {o:Oper} {i:Nat},ops.toList.zipIdx.find? q=some (o,i)->ops[i]? = some o:=by
  intro q o i h;have:=ABK h;have:=List.mem_zipIdx_iff_getElem?.1 this;rw[<-Wt];exact this
 intro f;induction f with
 | zero=>
  intro done p h;unfold OS at h;cases hb:Nat.beq done.length ops.toList.length
  ·rw[hb]at h;cases h
  ·rw[hb]at h;cases h;intro e he;cases he
 | succ f ih=>
  intro done p h;unfold OS at h;split at h
  ·rename_i o i hf;rw[GS]at h;obtain⟨r,hr,rfl⟩:=h;intro e he;rcases List.mem_cons.1 he with rfl | he
   ·exact key hf
   ·exact ih _ _ hr e he
  ·split at h
   ·rename_i o i hf;rw[GS]at h;obtain⟨r,hr,rfl⟩:=h;intro e he;rcases List.mem_cons.1 he with rfl | he
    ·exact key hf
    ·rcases List.mem_append.1 he with he | he
     ·exact ot e he
     ·exact ih _ _ hr e he
   ·cases h
theorem Hl {X:Ctx} (hm:X.P.follows .mixedOrders=true) (hp:X.BJ=MP X.P):HJ X:=by
 refine⟨hm,fun ops p h=>?_⟩;rw[hp]at h;unfold MP at h;split at h
 ·rename_i p' hg;cases hb:(MV X.P ops&&EY X.P ops [] p')
  ·rw[hb]at h;cases h
  ·rw[hb]at h;cases h
   rw[Dg]at hb;exact⟨hb.1,da _ _ _ hg,hb.2⟩
 ·cases h
def La (m:Tr AP):AW->Tr AP
 | []=> .leaf
 | i::r=>(La m r).put i (m.get i)
def N8:List B9->Bool
 | .Ee _ _::_=>false
 | _=>true
def Un:Value->Option Nat
 | .pointer (some ⟨b,_,_⟩)=>some b
 | .slice (some ⟨b,_,_⟩) _ _=>some b
 | _=>none
def Jt (P:Program) (ids:AW) (f:Aj):Bool:=
 match f.todo with
 | .Ee ops _::_=>ops.toList.all fun o=> !(Nat.beq (CA P o) 1)||(match o.dst with
  | some d=>match Un (look f.tmps d)with
   | some b=>ids.any (Nat.beq b)
   | none=>true
  | none=>true)
 | _=>true
def R5 (P:Program) (ids:AW) (c:BT):Bool:=N8 c.fr.todo&&c.cs.all fun f=>Jt P ids f
def shrink (P:Program) (ids:AW) (c:BT):Option BT:=
 match c with
 | ⟨fr,cs,H⟩=>bif R5 P ids ⟨fr,cs,H⟩then some ⟨fr,cs,⟨La H.m ids,H.next⟩⟩else none
def MM (X:Ctx) (n:Nat) (ids:AW) (c:BT):Option BT:=
 match fQ X n c with
 | some c'=>shrink X.P ids c'
 | none=>none
def Pm:AW->Tr Value->Tr Value
 | [],t=>t
 | i::r,t=>(Pm r t).put i (some Bv)
def forget (l:AW) (c:BT):Option BT:=
 match c with
 | ⟨⟨fn,t,n,todo,ds,r,kd,rd⟩,cs,H⟩=>bif N8 todo then some ⟨⟨fn,Pm l t,n,todo,ds,r,kd,rd⟩,cs,H⟩else none
inductive HQ (X:Ctx):BT->Bz where
 | run {c c':BT} (n:Nat) (h:fQ X n c=some c'):HQ X c c'
 | shrink {c c':BT} (ids:AW) (h:Go.AD.shrink X.P ids c=some c'):HQ X c c'
 | forget {c c':BT} (l:AW) (h:Go.AD.forget l c=some c'):HQ X c c'
 | trans {c c1 c2:BT} (h:HQ X c c1) (h':HQ X c1 c2):HQ X c c2
theorem HQ.MM {X:Ctx} {c c':BT} {n:Nat} {ids:AW} (h:MM X n ids c=some c'):HQ X c c':=by
 unfold AD.MM at h;split at h
 ·rename_i c1 h1;exact .trans (.run n h1) (.shrink ids h)
 ·cases h
theorem eJ (m:Tr AP):∀(ids:AW) (b:Nat) (o:AP),(La m ids).get b=some o->m.get b=some o:=by
 intro ids;induction ids with
 | nil=>intro b o h;simp[La,Tr.RI]at h
 | cons i r ih=>
  intro b o h;simp only[La]at h;rw[Tr.AU]at h
  by_cases e:b=i
  ·subst e;rw[MB rfl]at h;exact h
  ·rw[JT e]at h;exact ih b o h
section
variable {X:Ctx} {base:Env} {W0:World} {μ:Ae} {H:AA} {W:World}
theorem AJ.sub {H':AA} (h:AJ base W0 μ H W) (hs:∀b o,H'.get b=some o->H.get b=some o) (hn:H'.next=H.next):AJ base W0 μ H' W:=
 ⟨fun b o hb=>h.obj b o (hs b o hb),fun b o hb=>h.own b o (hs b o hb),fun b1 b2 o1 o2 h1 h2=>h.inj b1 b2 o1 o2 (hs _ _ h1) (hs _ _ h2),
  fun b hb=>(by
   have hb':H.next<=b:=by rw[<-hn];exact hb
   refine⟨?_,(h.fresh b hb').2⟩;cases hg:H'.get b with
   | none=>rfl
   | some o=>
    have:=(h.fresh b hb').1;rw[hs _ _ hg]at this;cases this),
  h.bound,h.size,h.below,h.out,h.os,
  let ⟨φ,q⟩:=h.abs;⟨φ,fun b' a ro T' h1 h2=>q.rep b' a ro T' (hs _ _ h1) h2,fun b' a ro T' h1 h2 b2 o2 T2 h3 h4 h5=>q.DG b' a ro T' (hs _ _ h1) h2 b2 o2 T2 (hs _ _ h3) h4 h5⟩,h.le,h.grow⟩
theorem fP (m:Tr AP):∀(ids:AW) (b:Nat),b∈ids->(La m ids).get b=m.get b:=by
 intro ids;induction ids with
 | nil=>intro b h;cases h
 | cons i r ih=>
  intro b h;simp only[La,Tr.AU]
  by_cases e:b=i
  ·rw[MB e,e]
  ·rw[JT e];rcases List.mem_cons.1 h with h | h
   ·exact absurd h e
   ·exact ih b h
theorem Ys {P:Program} {ρ:Operand->Value} {o:Oper} {H H':AA} {v:Value} (hc:CA P o=1) (hi:ML P ρ o H=some (v,H')):Un v=some H.next:=by
 have hv:=av (ρ:=ρ) hc H;unfold ML at hi;rw[hv]at hi;simp only at hi;cases ho:o.op<;>simp only[CA,ho]at hc<;>try (first | (cases hc;done) | (split at hc<;>cases hc;done))
 all_goals simp only[PU,ho]at hi
 ·split at hi
  ·cases hi;rfl
  ·cases hi
 ·rename_i t x;cases hn:EN (ρ x)
  ·simp[hn]at hi
  ·simp only[hn,C8,C5,Si]at hi;obtain⟨rfl,_⟩:=hi;rfl
 ·rename_i t len parts;cases hn:(Nat.blt len Aa&&parts.toList.all (fun p=>EN (ρ p.2)))
  ·simp only[hn,EB]at hi;cases hi
  ·simp only[hn,C8,Gz]at hi;cases hu:P.underlying t with
   | none=>simp[hu]at hi
   | some d=>
    cases d<;>simp only[hu]at hi<;>try (cases hi;done)
    rename_i e;cases hs:Dx P e with
    | none=>simp[hs]at hi
    | some n=>
     cases hz:IX P e with
     | none=>simp[hs,hz]at hi
     | some z=>
      simp only[hs,hz]at hi;cases hq:Nat.beq (len * n) 0
      ·simp only[hq,EB]at hi;cases hb:Nat.ble (len * n) 16777216
       ·simp only[hb,EB]at hi;cases hi
       ·simp only[hb,C8,GS]at hi;obtain⟨l,_,he⟩:=hi;cases he;rfl
      ·simp only[hq,C8]at hi;split at hi
       ·cases hi;rfl
       ·cases hi
 ·simp only[H9]at hi;split at hi
  ·split at hi
   ·rename_i i z _ _;rename_i l c _ _;revert hi;generalize (Nat.ble _ _&&Nat.ble _ _&&Nat.blt _ _)=q;cases q
    ·intro hi;cases hi
    ·intro hi;cases hi;rfl
   ·cases hi
  ·cases hi
theorem Hh.kept {ids:AW} {g:AW} {f:Aj} {f':Frame} (h:Hh X μ H g f f') (hg:Jt X.P ids f=true):Hh X μ ⟨La H.m ids,H.next⟩ g f f':=by
 cases h with
 | plain fn t n tm todo todo' ds ds' r kd rd rd' ht hi hd hr=>exact .plain fn t n tm todo todo' ds ds' r kd rd rd' ht hi hd hr
 | KA fn t n tm ops x o rest idx D G k k' ds ds' kd rd rd' ho hD hkk hd hr=>
  simp only[Jt,AAW]at hg;refine .KA fn t n tm ops x o rest idx D G k k' ds ds' kd rd rd' ho ⟨hD.stat,hD.wf,hD.Uv,hD.J2,hD.V8,hD.ec,hD.sz,hD.tmp,?_,hD.eZ,hD.gZ,hD.eb⟩ hkk hd hr;intro i o' ho' h1 h2;obtain⟨d,e1,e0,e2⟩:=hD.lK i o' ho' h1 h2;refine⟨d,e1,e0,?_⟩;rcases e2 with e2 | e2 | ⟨e2,e3,b,hb,obj,mk,a1,a2,a3,a4,a5⟩
  ·exact .inl e2
  ·exact .inr (.inl e2)
  ·refine .inr (.inr ⟨e2,e3,b,hb,obj,mk,a1,a2,a3,a4,?_⟩);have hm:o'∈ops.toList:=by
    rw[<-Wt]at ho';exact cA ho'
   have hk:=hg o' hm;have hbl:Un (look t d)=some b:=by
    rw[a1];exact Ys e3 (a2 ⟨.leaf,b⟩)
   simp only[e3,e1,hbl,VX,ABB,yW,AA9]at hk;obtain⟨b',hb',hbb⟩:=hk;have hbe:=DN hbb;subst hbe;show(La H.m ids).get b=some obj;rw[fP _ _ _ hb'];exact a5
theorem Dv.kept {ids:AW} {gs:AW} {l:List Aj} {l':List Frame} (h:Dv X μ H gs l l') (hg:l.all (fun f=>Jt X.P ids f)=true):Dv X μ ⟨La H.m ids,H.next⟩ gs l l':=by
 induction h with
 | nil=>exact .nil
 | cons h _ ih=>
  simp only[lf,Dg]at hg;exact .cons (h.kept hg.1) (ih hg.2)
theorem YZ {ids:AW} {c c':BT} {fr:Frame} {cs:List Frame} (h:shrink X.P ids c=some c') (hm:JL X base W0 μ c fr cs W):JL X base W0 μ c' fr cs W:=by
 obtain⟨f,l,H⟩:=c;unfold shrink at h;cases hb:R5 X.P ids ⟨f,l,H⟩
 ·simp only[hb,EB]at h;cases h
 ·simp only[hb,C8]at h;cases h
  simp only[R5,Dg]at hb;obtain⟨h1,h2,g,gs,h3,h4,h5⟩:=hm;refine⟨h1.sub (fun b o=>eJ H.m ids b o) rfl,h2,g,gs,?_,h4.kept hb.2,h5⟩;simp only at h3 hb;cases h3 with
  | plain fn t n tm todo todo' ds ds' r kd rd rd' ht hi hd hr=>exact .plain fn t n tm todo todo' ds ds' r kd rd rd' ht hi hd hr
  | drawn fn t n tm ops BJ idx D G k k' ds ds' kd rd rd' hD hk hd hr=>have:=hb.1;cases this
theorem W5 {n:Nat} {tm:BR}:∀(l:AW) {t:Tr Value},Gj μ t n tm->Gj μ (Pm l t) n tm:=by
 intro l;induction l with
 | nil=>intro t h;exact h
 | cons i r ih=>
  intro t h;have h1:=ih h;refine⟨h1.1,fun u=>?_⟩;simp only[Pm]
  by_cases e:u=i
  ·subst e;rw[Dq];exact .Bv _
  ·rw[EE _ _ e];exact h1.2 u
theorem Y1 {l:AW} {c c':BT} {fr:Frame} {cs:List Frame} (h:forget l c=some c') (hm:JL X base W0 μ c fr cs W):JL X base W0 μ c' fr cs W:=by
 obtain⟨⟨fn,t,n,todo,ds,r,kd,rd⟩,l1,H⟩:=c;unfold forget at h;simp only at h;cases hb:N8 todo
 ·simp only[hb,EB]at h;cases h
 ·simp only[hb,C8]at h;cases h
  obtain⟨h1,h2,g,gs,h3,h4,h5⟩:=hm;refine⟨h1,h2,g,gs,?_,h4,h5⟩;simp only at h3;cases h3 with
  | plain _ _ _ tm _ todo' _ ds' _ _ _ rd' ht hi hd hr=>exact .plain fn _ n tm todo todo' ds ds' r kd rd rd' (W5 l ht) hi hd hr
  | drawn _ _ _ tm ops BJ idx D G k k' _ ds' _ _ rd' hD hk hd hr=>cases hb
theorem WY (hok:ET X base W0) (hplan:HJ X) {cs0:List Frame} {c c':BT} (hg:HQ X c c'):∀(μ:Ae) (fr:Frame) (cs:List Frame) (W:World),JL X base W0 μ c fr cs W->
 ∃μ' fr1 cs1 W1,Steps X.P (lone fr (cs++cs0) W) (lone fr1 (cs1++cs0) W1)/\JL X base W0 μ' c' fr1 cs1 W1:=by
 induction hg with
 | run n h=>intro μ fr cs W hm;exact oZ hok hplan n _ _ μ fr cs W h hm
 | shrink ids h=>intro μ fr cs W hm;exact⟨μ,fr,cs,W,.refl _ _,YZ h hm⟩
 | forget l h=>intro μ fr cs W hm;exact⟨μ,fr,cs,W,.refl _ _,Y1 h hm⟩
 | trans _ _ ih1 ih2=>
  intro μ fr cs W hm;obtain⟨μ1,fr1,cs1,W1,s1,m1⟩:=ih1 μ fr cs W hm;obtain⟨μ2,fr2,cs2,W2,s2,m2⟩:=ih2 μ1 fr1 cs1 W1 m1;exact⟨μ2,fr2,cs2,W2,s1.trans s2,m2⟩
theorem Xy (hok:ET X base W0) (hplan:HJ X) (hH:AJ base W0 μ H W) (hlaid:Bj X μ) {f:FuncId} {n:Nat} {code:Code} (he:entry X.P f=some (n,code)) {args:AL} {args':BR} (ha:Am μ args args'.toList) (hn:args.length<=n)
 {c':BT} {v:Value} {H':AA} (hrun:HQ X (Em f (CM 0 args .leaf) n code H) c') (hd:FC X f c'=some (v,H')):
 Calls X.P f args' W fun e W'=>∃v' μ',e= .returned v'/\AJ base W0 μ' H' W'/\AH μ' v v':=by
 intro cs;obtain⟨μ',fr,cs1,W1,hs,hm⟩:=WY (cs0:=cs) hok hplan hrun μ _ [] W (Kp hH hlaid he ha hn);obtain⟨rfl,hf,v',h1,h2,h3⟩:=KR hm hd;have hs':Steps X.P (lone (Frame.enter X.P f args' .normal) cs W) (lone fr cs W1):=by simpa using hs
 exact⟨.returned v',W1,fr,⟨v',μ',rfl,h2,h3⟩,hs',hf,h1⟩
theorem b9 (Y:Ctx) (hP:Y.P=X.P) (hL:Y.laid=X.laid) (hW:Eb X base W0) (hok:∀base W0,Eb Y base W0->ET Y base W0) (hplan:HJ Y) {f:FuncId} {n N:Nat} {code:Code} (he:entry Y.P f=some (n,code)) {args:AL} (hfl:args.all flat=true)
 (hn:args.length<=n) (hN:∀p∈Y.laid,p.1 < N) {c':BT} {v:Value} {H1:AA} (hrun:HQ Y (Em f (CM 0 args .leaf) n code (KP Y.laid N)) c') (hd:FC Y f c'=some (v,H1)) (hv:flat v=true)
 (hH:AJ base W0 μ H W) {args':BR} (ha:Am μ args args'.toList):Calls X.P f args' W fun e W'=>∃v' μ',e= .returned v'/\AJ base W0 μ' H W'/\AH μ' v v'/\Ap μ H μ' H:=by
 have hW1:Eb Y (base.at W) W:=by
  have:=hW.carry hH;unfold Eb at this ⊢;rw[hL];exact this
 obtain⟨s1,s2⟩:=QD (X:=Y) hW1 (none_le _) (fun _ hi=>hi) hN;have hargs:args'.toList=args:=KG args _ hfl ha;have hc:=Xy (args':=args') (hok _ _ hW1) hplan s1 s2 he (by rw[hargs];exact Hy args hfl) hn hrun hd;rw[hP]at hc;refine hc.mono fun e W' ⟨v',μ',h1,h2,h3⟩=>⟨v',μ,h1,hH.carry (Mo h2) h2.below h2.out h2.os,?_,Ap.refl _ _⟩
 rw[LN hv h3];exact D5 hv
end
structure QG where
 f:FuncId
 args:AL
 v:Value
def N6 (k:QG):DO:=fun args H=>bif KC (Jw 8) args k.args then some (k.v,H)else none
def K0 (P:Program) (laid:Co) (k:QG):Prop:=
 (∃n c,entry P k.f=some (n,c))/\∀base W0 μ H W (args':BR),Eb ⟨P,laid,fun _=>none,MP P⟩ base W0->AJ base W0 μ H W->Am μ k.args args'.toList->
  Calls P k.f args' W fun e W'=>∃v' μ',e= .returned v'/\AJ base W0 μ' H W'/\AH μ' k.v v'/\Ap μ H μ' H
def EZ:List (Nat × Value)->Tr Value
 | []=> .leaf
 | (i,v)::r=>(EZ r).put i (some v)
def rX:List (Nat × AP)->Tr AP
 | []=> .leaf
 | (i,v)::r=>(rX r).put i (some v)
def PN:Code->AW->Code
 | c,[]=>c
 | .seq a b,i::r=>bif Nat.beq i 0 then PN a r else PN b r
 | .cond _ a b,i::r=>bif Nat.beq i 0 then PN a r else PN b r
 | .block _ b,_::r=>PN b r
 | .loop b,_::r=>PN b r
 | .scope b,_::r=>PN b r
 | .rangeFunc _ _ a b,i::r=>bif Nat.beq i 0 then PN a r else PN b r
 | c,_::_=>c
def A9 (P:Program) (f:FuncId) (l:AW):Code:=match entry P f with
 | some (_,c)=>PN c l
 | none=> .skip
def opsOf:Code->Array Oper
 | .region _ ops _=>ops
 | _=>#[]
def GU (c:Code) (k:Nat):B9:= .Kr (opsOf c) ((opsOf c).toList.drop k)
def Yn (P:Program) (c:Code) (k:Nat):B9:= .Ee (opsOf c) (match MP P (opsOf c)with
 | some p=>p.drop k
 | none=>[])
def fB (k:IntKind) (w:Nat):Nat->Nat->AL
 | 0,_=>[]
 | n+1,m=> .int k (Int.ofNat (m % w))::fB k w n (m / w)
def yv (l:AW):As:=⟨⟨l.map UInt8.ofNat⟩⟩
def pt (b o:Nat):Value:= .pointer (some ⟨b,o,none⟩)
def sl (b o l c:Nat):Value:= .slice (some ⟨b,o,none⟩) l c
def u8s (n m:Nat):AL:=fB .u8 256 n m
def Tk (n m:Nat):AL:=fB .u32 4294967296 n m
def AAF (n m:Nat):AL:=fB .u64 18446744073709551616 n m
theorem Rt {laid:Co} {N:Nat} (h:laid.all (fun p=>Nat.blt p.1 N)=true):∀p∈laid,p.1 < N:=fun p hp=>BE (List.all_eq_true.1 h p hp)
theorem jz {P:Program} {f:FuncId} {n:Nat} {c:Code} (h:entry P f=some (n,c)):entry P f=some (n,A9 P f []):=by
 have hc:PN c []=c:=by cases c<;>rfl
 unfold A9;rw[h];show _=some (n,PN c []);rw[hc]
def Zu (P:Program) (laid:Co) (k:QG) (n N:Nat):Bool:=
 P.follows .mixedOrders&&k.args.all flat&&Nat.ble k.args.length n&&laid.all (fun p=>Nat.blt p.1 N)&&flat k.v&&(match entry P k.f with
  | some (m,_)=>Nat.beq m n
  | none=>false)
section
variable {X:Ctx} {base:Env} {W0:World} {μ:Ae} {H:AA} {W:World}
def R6 (X:Ctx) (c c':BT):Prop:=∀(base:Env) (W0:World),ET X base W0->HJ X->∀(cs0:List Frame) (μ:Ae) (fr:Frame) (cs:List Frame) (W:World),JL X base W0 μ c fr cs W->C4 X base W0 cs0 c' (lone fr (cs++cs0) W)
theorem R6.refl (X:Ctx) (c:BT):R6 X c c:=fun _ _ _ _ _ μ fr cs W hm=>⟨μ,fr,cs,W,.refl _ _,hm⟩
theorem R6.trans {c c1 c2:BT} (h:R6 X c c1) (h':R6 X c1 c2):R6 X c c2:=by
 intro base W0 hok hplan cs0 μ fr cs W hm;obtain⟨μ1,fr1,cs1,W1,s1,m1⟩:=h base W0 hok hplan cs0 μ fr cs W hm;obtain⟨μ2,fr2,cs2,W2,s2,m2⟩:=h' base W0 hok hplan cs0 μ1 fr1 cs1 W1 m1;exact⟨μ2,fr2,cs2,W2,s1.trans s2,m2⟩
theorem R6.step {c c':BT} (h:FD X c=some c'):R6 X c c':=fun _ _ hok hplan _ _ _ _ _ hm=>Wl hok hplan hm h
theorem R6.yx {c c':BT} (h:HQ X c c'):R6 X c c':=fun _ _ hok hplan _ μ fr cs W hm=>WY hok hplan h μ fr cs W hm
def Reach (X:Ctx) (c:BT) (Φ:Bz):Prop:=∀(base:Env) (W0:World),ET X base W0->HJ X->∀(cs0:List Frame) (μ:Ae) (fr:Frame) (cs:List Frame) (W:World),JL X base W0 μ c fr cs W->∃c',Φ c'/\C4 X base W0 cs0 c' (lone fr (cs++cs0) W)
theorem Reach.here {c:BT} {Φ:Bz} (h:Φ c):Reach X c Φ:=fun _ _ hok hplan cs0 μ fr cs W hm=>⟨c,h,R6.refl X c _ _ hok hplan cs0 μ fr cs W hm⟩
theorem R6.reach {c c':BT} {Φ:Bz} (h:R6 X c c') (hΦ:Φ c'):Reach X c Φ:=fun _ _ hok hplan cs0 μ fr cs W hm=>⟨c',hΦ,h _ _ hok hplan cs0 μ fr cs W hm⟩
theorem Reach.bind {c:BT} {Φ Ψ:Bz} (h:Reach X c Φ) (h':∀c',Φ c'->Reach X c' Ψ):Reach X c Ψ:=by
 intro base W0 hok hplan cs0 μ fr cs W hm;obtain⟨c1,p1,μ1,fr1,cs1,W1,s1,m1⟩:=h base W0 hok hplan cs0 μ fr cs W hm;obtain⟨c2,p2,μ2,fr2,cs2,W2,s2,m2⟩:=h' c1 p1 base W0 hok hplan cs0 μ1 fr1 cs1 W1 m1;exact⟨c2,p2,μ2,fr2,cs2,W2,s1.trans s2,m2⟩
theorem Reach.mono {c:BT} {Φ Ψ:Bz} (h:Reach X c Φ) (hi:∀c',Φ c'->Ψ c'):Reach X c Ψ:=h.bind fun c' hc=> .here (hi c' hc)
theorem R6.then {c c':BT} {Φ:Bz} (h:R6 X c c') (h':Reach X c' Φ):Reach X c Φ:=Reach.bind (Φ:=fun d=>d=c') (h.reach rfl) fun _ e=>e ▸ h'
theorem R6.SQ {fn:FuncId} {t:Tr Value} {n:Nat} {ops:Array Oper} {j:Nat} {o:Oper} {rest:List PE} {k:List B9} {ds:List Deferred} {kd:CallKind} {rd:Option Nat} {cs:List Aj} {H:AA}
 (hf:Cw ops o t=some true->∃d H1,o.dst=some d/\ML X.P (Bt X t) o H=some (look t d,H1)):
 R6 X ⟨⟨fn,t,n,.Ee ops (.SQ j o::rest)::k,ds,false,kd,rd⟩,cs,H⟩ ⟨⟨fn,t,n,.Ee ops rest::k,ds,false,kd,rd⟩,cs,H⟩:=by
 intro base W0 hok hplan cs0 μ fr cs' W hm;obtain⟨hH,hlaid,g,gs,hfr,hcs,hnd⟩:=hm;simp only at hH hfr hcs;cases hfr with
 | plain fn t n tm todo todo' ds ds' r kd rd rd' ht hi hd hrd=>cases hi;rename_i h1 _;cases h1
 | drawn fn t n tm ops BJ idx D G k k' ds ds' kd rd rd' hD hk hd hr=>
  have hoj:ops[j]? = some o:=hD.wf (.SQ j o) (by simp);have hokp:=hD.Uv;unfold EY at hokp;simp only[Dg]at hokp;have hwf:Iw ops rest:=fun e he=>hD.wf e (by simp[he])
  refine⟨μ,_,cs',W,.refl _ _,hH,hlaid,G.map Prod.snd,gs,.drawn fn t n tm ops rest idx D G k k' ds ds' kd rd rd' ⟨hD.stat,hwf,hokp.2,hD.J2,hD.V8,hD.ec,hD.sz,hD.tmp,fun i oi hi hiD hii=>?_,hD.eZ,hD.gZ,hD.eb⟩ hk hd hr,hcs,hnd⟩;refine(hD.lK i oi hi hiD hii).congr (fun _ _=>rfl) (fun _ _=>rfl) fun d hdd hw hc0 hf2=>?_
  rcases hf2 with hf2 | hf2
  ·simp only[lead,Ul]at hf2;rcases hf2 with rfl | hf2
   ·rw[hoj]at hi;cases hi
    obtain⟨d2,H1,e1,e2⟩:=hf hw;rw[hdd]at e1;cases e1
    exact .inr ⟨H1,e2⟩
   ·exact .inl hf2
  ·exact .inr hf2
end
def ph {α:Type} (x:Option α) (p:Hj):Tr α->(Tr α->Prop)->Prop:=
 Hj.rec (motive:=fun _=>Tr α->(Tr α->Prop)->Prop)
  (fun t k=>Tr.casesOn (motive:=fun _=>Prop) t (k (.node .leaf x .leaf)) (fun l _ r=>k (.node l x r)))
  (fun _ ih t k=>Tr.casesOn (motive:=fun _=>Prop) t (ih .leaf fun l=>k (.node l none .leaf)) (fun l v r=>ih l fun l=>k (.node l v r)))
  (fun _ ih t k=>Tr.casesOn (motive:=fun _=>Prop) t (ih .leaf fun r=>k (.node .leaf none r)) (fun l v r=>ih r fun r=>k (.node l v r)))
  p
theorem i7 {α:Type} (x:Option α) (p:Hj):∀(t:Tr α) (k:Tr α->Prop),ph x p t k=k (t.Ga x p):=by
 induction p with
 | e=>intro t k;cases t<;>rfl
 | z p ih=>intro t k;cases t<;>exact ih _ _
 | o p ih=>intro t k;cases t<;>exact ih _ _
def nX {α:Type} (t:Tr α) (n:Nat) (x:Option α) (k:Tr α->Prop):Prop:=ph x (Hj.of n) t k
theorem Uk {α:Type} (t:Tr α) (n:Nat) (x:Option α) (k:Tr α->Prop):nX t n x k=k (t.put n x):=i7 _ _ _ _
def au:Nat->AL->Tr Value->(Tr Value->Prop)->Prop
 | _,[],t,k=>k t
 | i,v::r,t,k=>nX t i (some v) fun t=>au (i+1) r t k
theorem U3:∀(l:AL) (i:Nat) (t:Tr Value) (k:Tr Value->Prop),au i l t k=k (CM i l t)
 | [],_,_,_=>rfl
 | v::r,i,t,k=>by simp only[au,CM,Uk,U3 r]
def Ks (f:Aj) (v:Value):Option Aj:=
 match f with
 | ⟨fn,t,n,todo,ds,r,kd,rd⟩=>
  match todo with
  | .Kr ops (o::rest)::k=>
   match o.dst with
   | some d=>bif Nat.blt d n then some ⟨fn,t.put d (some v),n,.Kr ops rest::k,ds,r,kd,rd⟩else none
   | none=>some ⟨fn,t,n,.Kr ops rest::k,ds,r,kd,rd⟩
  | .Ee ops (.op _ o::rest)::k=>
   match o.dst with
   | some d=>bif Nat.blt d n then some ⟨fn,t.put d (some v),n,.Ee ops rest::k,ds,r,kd,rd⟩else none
   | none=>some ⟨fn,t,n,.Ee ops rest::k,ds,r,kd,rd⟩
  | .inRangeFunc l::k=>some ⟨fn,t,n,.endRangeFunc l::k,ds,r,kd,rd⟩
  | .beginRound::k=>some ⟨fn,t,n,k,ds,r,kd,rd⟩
  | _=>none
theorem ZN (f:Aj) (v:Value):CG f v=Ks f v:=by
 unfold CG;rw[K6];rfl
def fS (f:Aj) (v:Value) (cs:List Aj) (H:AA) (K:Bz):Prop:=
 match f with
 | ⟨fn,t,n,todo,ds,r,kd,rd⟩=>
  match todo with
  | .Kr ops (o::rest)::k=>
   match o.dst with
   | some d=>bif Nat.blt d n then nX t d (some v) fun t=>K ⟨⟨fn,t,n,.Kr ops rest::k,ds,r,kd,rd⟩,cs,H⟩else False
   | none=>K ⟨⟨fn,t,n,.Kr ops rest::k,ds,r,kd,rd⟩,cs,H⟩
  | .Ee ops (.op _ o::rest)::k=>
   match o.dst with
   | some d=>bif Nat.blt d n then nX t d (some v) fun t=>K ⟨⟨fn,t,n,.Ee ops rest::k,ds,r,kd,rd⟩,cs,H⟩else False
   | none=>K ⟨⟨fn,t,n,.Ee ops rest::k,ds,r,kd,rd⟩,cs,H⟩
  | _=>match Ks ⟨fn,t,n,todo,ds,r,kd,rd⟩ v with
   | some f'=>K ⟨f',cs,H⟩
   | none=>False
def MU (f:Aj) (v:Value) (cs:List Aj) (H:AA) (K:Bz):Prop:=
 match v with
 | .bool b=>bif b then fS f (.bool true) cs H K else fS f (.bool false) cs H K
 | v=>fS f v cs H K
def VT.Xl:VT->(Ih)->Prop
 | .fail,_=>False
 | .ret v H,K=>K v H
 | .test c a b,K=>bif c then a.Xl K else b.Xl K
theorem VT.Hv {K:Ih}:∀{t:VT},t.Xl K->∃v H',t.run=some (v,H')/\K v H'
 | .fail,h=>by cases h
 | .ret v H,h=>⟨v,H,rfl,h⟩
 | .test c a b,h=>by
  cases c
  ·exact VT.Hv (t:=b) h
  ·exact VT.Hv (t:=a) h
def rj (P:Program) (ρ:Operand->Value) (o:Oper) (H:AA) (K:Ih):Prop:=
 match Uu P ρ o H with
 | some t=>t.Xl K
 | none=>match PU P ρ o H with
  | some (v,H')=>K v H'
  | none=>False
theorem kC {P:Program} {ρ:Operand->Value} {o:Oper} {H:AA} {K:Ih} (h:rj P ρ o H K):∃v H',ML P ρ o H=some (v,H')/\K v H':=by
 unfold rj at h;unfold ML;cases hv:Uu P ρ o H with
 | some t=>simp only[hv]at h;exact VT.Hv h
 | none=>
  simp only[hv]at h;split at h
  ·rename_i v H' e;exact⟨v,H',e,h⟩
  ·cases h
def Pl (X:Ctx) (f:FuncId) (args:AL) (kind:CallKind) (fr:Aj) (cs:List Aj) (H:AA) (K:Bz):Prop:=
 match CP X f args kind H with
 | some (v,H')=>MU fr v cs H' K
 | none=>match entry X.P f with
  | some (n,c)=>bif Nat.ble args.length n then au 0 args .leaf fun t=>K ⟨⟨f,t,n,[.code c],[],false,kind,none⟩,fr::cs,H⟩else False
  | none=>match IB X f args kind fr cs H with
   | some c'=>K c'
   | none=>False
abbrev HL:=AL->AA->(Ih)->Prop
abbrev Pf:=FuncId->Option HL
def HO (X:Ctx) (pf:Pf):Prop:=∀f F,pf f=some F->∀args H K,F args H K->∃v H',CP X f args .normal H=some (v,H')/\K v H'
def ZU (X:Ctx) (pf:Pf) (f:FuncId) (args:AL) (kind:CallKind) (fr:Aj) (cs:List Aj) (H:AA) (K:Bz):Prop:=
 match pf f with
 | some F=>match kind with
  | .normal=>F args H fun v H'=>MU fr v cs H' K
  | kind=>Pl X f args kind fr cs H K
 | none=>Pl X f args kind fr cs H K
def WB (X:Ctx) (pf:Pf) (f:Value) (args:AL) (fr:Aj) (cs:List Aj) (H:AA) (K:Bz):Prop:=
 match f with
 | .func (.func g) first captured=>ZU X pf g (first.toList++args++captured.toList) .normal fr cs H K
 | _=>match Ni X f args fr cs H with
  | some c'=>K c'
  | none=>False
def Sd (X:Ctx) (pf:Pf) (o:Oper) (fr:Aj) (cs:List Aj) (H:AA) (K:Bz):Prop:=
 match o.op with
 | .call c=>match c.callee with
  | .builtin b=>bif isRec b then(match uL fr cs H with
   | some c'=>K c'
   | none=>False)else rj X.P (Bt X fr.tmps) o H fun v H'=>MU fr v cs H' K
  | .value f=>WB X pf (Bt X fr.tmps f) (c.args.toList.map (Bt X fr.tmps)) fr cs H K
  | _=>False
 | .defer _=>match LZ X o fr cs H with
  | some c'=>K c'
  | none=>False
 | _=>rj X.P (Bt X fr.tmps) o H fun v H'=>MU fr v cs H' K
def Lx (ops:Array Oper) (o:Oper) (t:Tr Value) (Kt Kf:Prop):Prop:=
 match o.guard with
 | none=>Kt
 | some (j,want)=>match G5 ops j with
  | some d=>match look t d with
   | .bool b=>bif want then(bif b then Kt else Kf)else(bif b then Kf else Kt)
   | .tuple _=>Kf
   | _=>False
  | none=>Kf
def ug (kind:CallKind) (v:Value) (cs:List Aj) (H:AA) (K:Bz):Prop:=
 match cs with
 | []=>False
 | c::rest=>match kind with
  | .normal=>MU c v rest H K
  | .deferred=>bif c.ret then K ⟨c,rest,H⟩else False
  | _=>False
def ag (l:List PE):(List PE->Prop)->Prop:=
 List.rec (motive:=fun _=>(List PE->Prop)->Prop) (fun k=>k []) (fun e _ ih k=>match e with
  | .op i ⟨d,op,ty,pos,af,g⟩=>Nat.rec (motive:=fun _=>Prop) (ih fun r=>k (.op 0 ⟨d,op,ty,pos,af,g⟩::r)) (fun j _=>ih fun r=>k (.op (j+1) ⟨d,op,ty,pos,af,g⟩::r)) i
  | .SQ i ⟨d,op,ty,pos,af,g⟩=>Nat.rec (motive:=fun _=>Prop) (ih fun r=>k (.SQ 0 ⟨d,op,ty,pos,af,g⟩::r)) (fun j _=>ih fun r=>k (.SQ (j+1) ⟨d,op,ty,pos,af,g⟩::r)) i) l
theorem H7:∀(l:List PE) (k:List PE->Prop),ag l k=k l
 | [],_=>rfl
 | .op 0 o::r,k=>H7 r fun r=>k (.op 0 o::r)
 | .op (j+1) o::r,k=>H7 r fun r=>k (.op (j+1) o::r)
 | .SQ 0 o::r,k=>H7 r fun r=>k (.SQ 0 o::r)
 | .SQ (j+1) o::r,k=>H7 r fun r=>k (.SQ (j+1) o::r)
def HC (X:Ctx) (pf:Pf) (c:BT) (K:Bz):Prop:=
 match c with
 | ⟨⟨fn,t,n,todo,ds,r,kd,rd⟩,cs,H⟩=>
  bif r then
   match ds with
   | []=>match Kl X fn t H with
    | some v=>ug kd v cs H K
    | none=>False
   | _::_=>match NF X ⟨fn,t,n,todo,ds,r,kd,rd⟩ cs H with
    | some c'=>K c'
    | none=>False
  else
  match todo with
  | .Kr ops (o::_)::_=>Lx ops o t (Sd X pf o ⟨fn,t,n,todo,ds,r,kd,rd⟩ cs H K) (MU ⟨fn,t,n,todo,ds,r,kd,rd⟩ Go.undef cs H K)
  | .Ee ops (.op _ o::_)::_=>Lx ops o t (Sd X pf o ⟨fn,t,n,todo,ds,r,kd,rd⟩ cs H K) (MU ⟨fn,t,n,todo,ds,r,kd,rd⟩ Go.undef cs H K)
  | .Ee ops (.SQ _ o::rest)::k=>Lx ops o t
   (match o.dst with
    | some d=>rj X.P (Bt X t) o H fun v _=>v=look t d/\K ⟨⟨fn,t,n,.Ee ops rest::k,ds,r,kd,rd⟩,cs,H⟩
    | none=>False)
   (K ⟨⟨fn,t,n,.Ee ops rest::k,ds,r,kd,rd⟩,cs,H⟩)
  | .code (.cond c a b)::k=>match Bt X t c with
   | .bool x=>bif x then K ⟨⟨fn,t,n,.code a::k,ds,r,kd,rd⟩,cs,H⟩else K ⟨⟨fn,t,n,.code b::k,ds,r,kd,rd⟩,cs,H⟩
   | _=>False
  | .code (.region _ ops true)::k=>match X.BJ ops with
   | some p=>ag p fun p=>K ⟨⟨fn,t,n,.Ee ops p::k,ds,r,kd,rd⟩,cs,H⟩
   | none=>False
  | .code (.rangeFunc f params assign body)::k=>
   match rd with
   | some l=>match H.get l with
    | some (.loop q)=>
     WB X pf (Bt X t f) [.func (.yield H.next) ⟨[]⟩ ⟨[]⟩] ⟨fn,t,n,.inRangeFunc H.next::k,ds,r,kd,rd⟩ cs
      (H.alloc (.loop ⟨.ready,none,fn,t,n,params,assign,body,q.defers⟩)) K
    | _=>False
   | none=>
    WB X pf (Bt X t f) [.func (.yield (H.next+1)) ⟨[]⟩ ⟨[]⟩] ⟨fn,t,n,.inRangeFunc (H.next+1)::k,{ target:= .collected H.next,args:=⟨[]⟩ }::ds,r,kd,rd⟩ cs
     ((H.alloc (.deferred (some []))).alloc (.loop ⟨.ready,none,fn,t,n,params,assign,body,H.next⟩)) K
  | _=>match FD X ⟨⟨fn,t,n,todo,ds,r,kd,rd⟩,cs,H⟩with
   | some c'=>K c'
   | none=>False
section
variable {X:Ctx}
theorem Tn {f:Aj} {v:Value} {cs:List Aj} {H:AA} {K:Bz} (h:fS f v cs H K):∃f',CG f v=some f'/\K ⟨f',cs,H⟩:=by
 rw[ZN];obtain⟨fn,t,n,todo,ds,r,kd,rd⟩:=f;unfold fS at h;simp only at h;split at h
 ·rename_i ops o rest k;split at h
  ·rename_i d e;cases hb:Nat.blt d n
   ·simp[hb]at h
   ·simp only[hb,C8,Uk]at h;exact⟨_,by simp only[Ks,e,hb,C8],h⟩
  ·rename_i e;exact⟨_,by simp only[Ks,e],h⟩
 ·rename_i ops i o rest k;split at h
  ·rename_i d e;cases hb:Nat.blt d n
   ·simp[hb]at h
   ·simp only[hb,C8,Uk]at h;exact⟨_,by simp only[Ks,e,hb,C8],h⟩
  ·rename_i e;exact⟨_,by simp only[Ks,e],h⟩
 ·split at h
  ·rename_i f' e;exact⟨f',e,h⟩
  ·cases h
theorem LG {f:Aj} {v:Value} {cs:List Aj} {H:AA} {K:Bz} (h:MU f v cs H K):∃f',CG f v=some f'/\K ⟨f',cs,H⟩:=by
 unfold MU at h;split at h
 ·rename_i b;cases b
  ·exact Tn h
  ·exact Tn h
 ·exact Tn h
theorem RA {f:FuncId} {args:AL} {kind:CallKind} {fr:Aj} {cs:List Aj} {H:AA} {K:Bz} (h:Pl X f args kind fr cs H K):∃c',IB X f args kind fr cs H=some c'/\K c':=by
 unfold Pl at h;cases hi:CP X f args kind H with
 | some p=>
  obtain⟨v,H'⟩:=p;simp only[hi]at h;obtain⟨f',e1,e2⟩:=LG h;exact⟨_,by unfold IB;simp only[hi,e1],e2⟩
 | none=>
  simp only[hi]at h;cases he:entry X.P f with
  | some p=>
   obtain⟨n,c⟩:=p;simp only[he]at h;cases hb:Nat.ble args.length n
   ·simp[hb]at h
   ·simp only[hb,C8,U3]at h;exact⟨_,by unfold IB;simp only[hi,he,hb,C8],h⟩
  | none=>
   simp only[he]at h;split at h
   ·rename_i c' e;exact⟨c',e,h⟩
   ·cases h
theorem dR {pf:Pf} (hpf:HO X pf) {f:FuncId} {args:AL} {kind:CallKind} {fr:Aj} {cs:List Aj} {H:AA} {K:Bz} (h:ZU X pf f args kind fr cs H K):∃c',IB X f args kind fr cs H=some c'/\K c':=by
 unfold ZU at h;split at h
 ·rename_i F hF;split at h
  ·obtain⟨v,H',e1,e2⟩:=hpf f F hF _ _ _ h;obtain⟨f',e3,e4⟩:=LG e2;exact⟨_,by unfold IB;simp only[e1,e3],e4⟩
  ·exact RA h
 ·exact RA h
theorem P4 {pf:Pf} (hpf:HO X pf) {f:Value} {args:AL} {fr:Aj} {cs:List Aj} {H:AA} {K:Bz} (h:WB X pf f args fr cs H K):∃c',Ni X f args fr cs H=some c'/\K c':=by
 unfold WB at h;split at h
 ·obtain⟨c',e1,e2⟩:=dR hpf h;exact⟨c',by unfold Ni;exact e1,e2⟩
 ·split at h
  ·rename_i c' e;exact⟨c',e,h⟩
  ·cases h
theorem WW {pf:Pf} (hpf:HO X pf) {o:Oper} {fr:Aj} {cs:List Aj} {H:AA} {K:Bz} (h:Sd X pf o fr cs H K):∃c',LZ X o fr cs H=some c'/\K c':=by
 have key:rj X.P (Bt X fr.tmps) o H (fun v H'=>MU fr v cs H' K)->∃v H' f',ML X.P (Bt X fr.tmps) o H=some (v,H')/\CG fr v=some f'/\K ⟨f',cs,H'⟩:=by
  intro h;obtain⟨v,H',e1,e2⟩:=kC h;obtain⟨f',e3,e4⟩:=LG e2;exact⟨v,H',f',e1,e3,e4⟩
 unfold Sd at h;unfold LZ;cases ho:o.op
 case call c=>
  simp only[ho]at h ⊢;cases hc:c.callee with
  | builtin b=>
   simp only[hc]at h ⊢;cases hb:isRec b
   ·simp only[hb,EB]at h ⊢;obtain⟨v,H',f',e1,e2,e3⟩:=key h;exact⟨_,by simp only[e1,e2],e3⟩
   ·simp only[hb,C8]at h ⊢;split at h
    ·rename_i c' e;exact⟨c',e,h⟩
    ·cases h
  | value f=>simp only[hc]at h ⊢;exact P4 hpf h
  | invoke r m=>simp only[hc]at h
 case defer c=>
  simp only[ho]at h;split at h
  ·rename_i c' e;refine⟨c',?_,h⟩;unfold LZ at e;simp only[ho]at e ⊢;exact e
  ·cases h
 all_goals
  simp only[ho]at h ⊢;obtain⟨v,H',f',e1,e2,e3⟩:=key h;exact⟨_,by simp only[e1,e2],e3⟩
theorem Qb {ops:Array Oper} {o:Oper} {t:Tr Value} {Kt Kf:Prop} (h:Lx ops o t Kt Kf):(Cw ops o t=some true/\Kt)∨(Cw ops o t=some false/\Kf):=by
 unfold Lx at h;unfold Cw;split at h
 ·rename_i e;exact .inl ⟨by simp only[e],h⟩
 ·rename_i j want e;split at h
  ·rename_i d e1;split at h
   ·rename_i b e2;cases want<;>cases b<;>simp only[C8,EB]at h<;>simp[e,e1,e2,h]
   ·rename_i e2;exact .inr ⟨by simp only[e,e1,e2],h⟩
   ·cases h
  ·rename_i e1;exact .inr ⟨by simp only[e,e1],h⟩
theorem lq {kind:CallKind} {v:Value} {cs:List Aj} {H:AA} {K:Bz} (h:ug kind v cs H K):∃c',IS kind v cs H=some c'/\K c':=by
 unfold ug at h;unfold IS;split at h
 ·cases h
 ·cases kind<;>simp only at h ⊢
  ·obtain⟨f',e1,e2⟩:=LG h;exact⟨_,by simp only[e1],e2⟩
  ·rename_i c rest;cases hr:c.ret
   ·simp[hr]at h
   ·simp only[hr,C8]at h ⊢;exact⟨_,rfl,h⟩
  all_goals cases h
theorem cN {pf:Pf} (hpf:HO X pf) {c:BT} {K:Bz} (h:HC X pf c K):∃c',R6 X c c'/\K c':=by
 obtain⟨⟨fn,t,n,todo,ds,r,kd,rd⟩,cs,H⟩:=c;have fall:(match FD X ⟨⟨fn,t,n,todo,ds,r,kd,rd⟩,cs,H⟩with | some c'=>K c' | none=>False)->∃c',R6 X ⟨⟨fn,t,n,todo,ds,r,kd,rd⟩,cs,H⟩ c'/\K c':=by
  intro h;split at h
  ·rename_i c' e;exact⟨c',.step e,h⟩
  ·cases h
 unfold HC at h;simp only at h;cases r with
 | true=>
  simp only[C8]at h;split at h
  ·split at h
   ·rename_i v e;obtain⟨c',e1,e2⟩:=lq h;refine⟨c',.step ?_,e2⟩;unfold FD NF;simp only[C8,e,e1]
   ·cases h
  ·split at h
   ·rename_i c' e;refine⟨c',.step ?_,h⟩;unfold FD;simp only[C8];exact e
   ·cases h
 | false=>
  simp only[EB]at h;split at h
  ·rename_i ops o l k;rcases Qb h with⟨hw,h⟩ | ⟨hw,h⟩
   ·obtain⟨c',e1,e2⟩:=WW hpf h;refine⟨c',.step ?_,e2⟩;unfold FD;simp only[EB,hw];exact e1
   ·obtain⟨f',e1,e2⟩:=LG h;refine⟨_,.step ?_,e2⟩;unfold FD;simp only[EB,hw,e1]
  ·rename_i ops i o l k;rcases Qb h with⟨hw,h⟩ | ⟨hw,h⟩
   ·obtain⟨c',e1,e2⟩:=WW hpf h;refine⟨c',.step ?_,e2⟩;unfold FD;simp only[EB,hw];exact e1
   ·obtain⟨f',e1,e2⟩:=LG h;refine⟨_,.step ?_,e2⟩;unfold FD;simp only[EB,hw,e1]
  ·rename_i ops j o rest k;rcases Qb h with⟨hw,h⟩ | ⟨hw,h⟩
   ·split at h
    ·rename_i d hd;obtain⟨v,H',e1,e2,e3⟩:=kC h;exact⟨_,.SQ fun _=>⟨d,H',hd,by rw[e1,e2]⟩,e3⟩
    ·cases h
   ·exact⟨_,.SQ fun hw2=>(by rw[hw]at hw2;cases hw2),h⟩
  ·rename_i cnd a b k;split at h
   ·rename_i x e;cases x
    ·refine⟨_,.step ?_,h⟩;unfold FD;simp only[EB,e]
    ·refine⟨_,.step ?_,h⟩;unfold FD;simp only[EB,C8,e]
   ·cases h
  ·rename_i ops k;split at h
   ·rename_i p e;rw[H7]at h;refine⟨_,.step ?_,h⟩;unfold FD;simp only[EB,e]
   ·cases h
  ·rename_i f params assign body k;split at h
   ·rename_i l;split at h
    ·rename_i q e;obtain⟨c',e1,e2⟩:=P4 hpf h;refine⟨c',.step ?_,e2⟩;unfold FD;simp only[EB,e];exact e1
    ·cases h
   ·obtain⟨c',e1,e2⟩:=P4 hpf h;refine⟨c',.step ?_,e2⟩;unfold FD;simp only[EB];exact e1
  ·exact fall h
def Au:Nat->Value->AW
 | 0,_=>[]
 | n+1,v=>match v with
  | .pointer (some a)=>[a.block]
  | .slice (some a) _ _=>[a.block]
  | .map (some b)=>[b]
  | .agg cs=>cs.toList.flatMap (Au n)
  | .tuple cs=>cs.toList.flatMap (Au n)
  | .iface _ v=>Au n v
  | .func _ a b=>a.toList.flatMap (Au n)++b.toList.flatMap (Au n)
  | _=>[]
def pz (X:Ctx) (pf:Pf) (f:FuncId) (ids:AW) (Q:Bm) (n:Nat):Bz:=
 Nat.rec (motive:=fun _=>Bz) (fun _=>False) (fun _ ih c=>match FC X f c with
  | some (v,H)=>Q v ((ids++Au 4 v).map H.get)
  | none=>HC X pf c ih) n
def Cz:Pf:=fun _=>none
theorem CB (X:Ctx):HO X Cz:=fun _ _ h=>by cases h
theorem KD {pf:Pf} (hpf:HO X pf) {c:BT} {K:Bz} (h:HC X pf c K):Reach X c K:=let ⟨_,h1,h2⟩:=cN hpf h;h1.reach h2
def ZW (X:Ctx) (f:FuncId) (Q:Ih) (c:BT):Prop:=Reach X c fun c'=>∃v H,FC X f c'=some (v,H)/\Q v H
theorem Yo {pf:Pf} (hpf:HO X pf) {f:FuncId} {ids:AW} {Q:Bm}:∀(n:Nat) (c:BT),pz X pf f ids Q n c->ZW X f (fun v H=>Q v ((ids++Au 4 v).map H.get)) c:=by
 intro n;induction n with
 | zero=>intro c h;cases h
 | succ n ih=>
  intro c h;have h:(match FC X f c with
   | some (v,H)=>Q v ((ids++Au 4 v).map H.get)
   | none=>HC X pf c (pz X pf f ids Q n)):=h
  split at h
  ·rename_i v H e;exact .here ⟨v,H,e,h⟩
  ·exact(KD hpf h).bind fun c' hc=>ih c' hc
end
abbrev Ren:=Nat->Option Nat
def DB (f:Value->C1):AL->Option (AL)
 | []=>some []
 | v::l=>match f v,DB f l with
  | some w,some m=>some (w::m)
  | _,_=>none
def Je (ρ:Ren):Addr->Option Addr
 | ⟨b,o,s⟩=>match ρ b with
  | some i=>some ⟨i,o,s⟩
  | none=>none
def B7 (ρ:Ren):Nat->Value->C1
 | 0,_=>none
 | n+1,v=>match v with
  | .bool b=>some (.bool b)
  | .int k m=>some (.int k m)
  | .float k m=>some (.float k m)
  | .string s=>some (.string s)
  | .pointer none=>some (.pointer none)
  | .pointer (some a)=>(Je ρ a).map fun a=> .pointer (some a)
  | .slice none l c=>some (.slice none l c)
  | .slice (some a) l c=>(Je ρ a).map fun a=> .slice (some a) l c
  | .map none=>some (.map none)
  | .map (some b)=>(ρ b).map fun b=> .map (some b)
  | .nilFunc=>some .nilFunc
  | .nilIface=>some .nilIface
  | .iface t v=>(B7 ρ n v).map fun v=> .iface t v
  | .agg cs=>(DB (B7 ρ n) cs.toList).map fun l=> .agg ⟨l⟩
  | .tuple cs=>(DB (B7 ρ n) cs.toList).map fun l=> .tuple ⟨l⟩
  | .func (.func f) xs ys=>match DB (B7 ρ n) xs.toList,DB (B7 ρ n) ys.toList with
   | some a,some b=>some (.func (.func f) ⟨a⟩ ⟨b⟩)
   | _,_=>none
  | .chan (some 0)=>some (.chan (some 0))
  | _=>none
abbrev Dr (ρ:Ren) (v:Value):C1:=B7 ρ 6 v
section
variable {ρ:Ren} {μ ν:Ae}
theorem G7 {f:Value->C1} (hf:∀v v1 v',f v=some v1->AH μ v v'->AH ν v1 v'):∀(l l1 l':AL),DB f l=some l1->Am μ l l'->Am ν l1 l'
 | [],_,_,h,hl=>by cases h;cases hl;exact .nil
 | v::l,l1,_,h,hl=>by
  cases hl with
  | cons h1 h2=>
   simp only[DB]at h;split at h
   ·rename_i w m e1 e2;cases h
    exact .cons (hf _ _ _ e1 h1) (G7 hf l m _ e2 h2)
   ·cases h
theorem GF {f:Value->C1} (hf:∀v v1 v',f v=some v1->AH ν v1 v'->AH μ v v'):∀(l l1 l':AL),DB f l=some l1->Am ν l1 l'->Am μ l l'
 | [],_,_,h,hl=>by cases h;cases hl;exact .nil
 | v::l,l1,l',h,hl=>by
  simp only[DB]at h;split at h
  ·rename_i w m e1 e2;cases h
   cases hl with
   | cons h1 h2=>exact .cons (hf _ _ _ e1 h1) (GF hf l m _ e2 h2)
  ·cases h
theorem Eu {a a1:Addr} (h:Je ρ a=some a1):∃b o s i,a=⟨b,o,s⟩/\ρ b=some i/\a1=⟨i,o,s⟩:=by
 obtain⟨b,o,s⟩:=a;unfold Je at h;simp only at h;split at h
 ·rename_i i e;cases h;exact⟨b,o,s,i,rfl,e,rfl⟩
 ·cases h
theorem Pd (hρ:∀b i T,ρ b=some i->μ b=some T->ν i=some T):∀(n:Nat) (v v1 v':Value),B7 ρ n v=some v1->AH μ v v'->AH ν v1 v':=by
 intro n;induction n with
 | zero=>intro v v1 v' h;cases h
 | succ n ih=>
  intro v v1 v' h hr;cases hr with
  | Bv=>simp only[B7,Bv,C5]at h;subst h;exact .Bv _
  | bool b=>cases h;exact .bool b
  | int k m=>cases h;exact .int k m
  | float k m=>cases h;exact .float k m
  | string s=>cases h;exact .string s
  | Hw=>cases h;exact .Hw
  | CN l c=>cases h;exact .CN l c
  | IC=>cases h;exact .IC
  | nilFunc=>cases h;exact .nilFunc
  | nilIface=>cases h;exact .nilIface
  | ptr b o T hm=>
   simp only[B7,GS]at h;obtain⟨a,ha,rfl⟩:=h;obtain⟨b1,o1,s1,i,e1,e2,rfl⟩:=Eu ha;cases e1
   exact .ptr i o T (hρ _ _ _ e2 hm)
  | HS b o j T hm hlo=>
   simp only[B7,GS]at h;obtain⟨a,ha,rfl⟩:=h;obtain⟨b1,o1,s1,i,e1,e2,rfl⟩:=Eu ha;cases e1
   exact .HS i o j T (hρ _ _ _ e2 hm) hlo
  | HY b o j T M hm hm2 hcu=>
   simp only[B7,GS]at h;obtain⟨a,ha,rfl⟩:=h;obtain⟨b1,o1,s1,i,e1,e2,rfl⟩:=Eu ha;cases e1
   exact .HY i o j T M (hρ _ _ _ e2 hm) hm2 hcu
  | slice b o l c c' o' T hm hc ho=>
   simp only[B7,GS]at h;obtain⟨a,ha,rfl⟩:=h;obtain⟨b1,o1,s1,i,e1,e2,rfl⟩:=Eu ha;cases e1
   exact .slice i o l c c' o' T (hρ _ _ _ e2 hm) hc ho
  | Bk b j l c c' o' T hm hc ho hr=>
   simp only[B7,GS]at h;obtain⟨a,ha,rfl⟩:=h;obtain⟨b1,o1,s1,i,e1,e2,rfl⟩:=Eu ha;cases e1
   exact .Bk i j l c c' o' T (hρ _ _ _ e2 hm) hc ho hr
  | DW b j c T z hm hc=>
   simp only[B7,GS]at h;obtain⟨a,ha,rfl⟩:=h;obtain⟨b1,o1,s1,i,e1,e2,rfl⟩:=Eu ha;cases e1
   exact .DW i j c T z (hρ _ _ _ e2 hm) hc
  | Cl b j l c c' o' T M hm hm2 hc ho hr=>
   simp only[B7,GS]at h;obtain⟨a,ha,rfl⟩:=h;obtain⟨b1,o1,s1,i,e1,e2,rfl⟩:=Eu ha;cases e1
   exact .Cl i j l c c' o' T M (hρ _ _ _ e2 hm) hm2 hc ho hr
  | F9 b j c T z hm hc=>
   simp only[B7,GS]at h;obtain⟨a,ha,rfl⟩:=h;obtain⟨b1,o1,s1,i,e1,e2,rfl⟩:=Eu ha;cases e1
   exact .F9 i j c T z (hρ _ _ _ e2 hm) hc
  | map b T hm=>
   simp only[B7,GS]at h;obtain⟨i,hi,rfl⟩:=h;exact .map i T (hρ _ _ _ hi hm)
  | iface t a a' ha=>
   simp only[B7,GS]at h;obtain⟨w,hw,rfl⟩:=h;exact .iface t w a' (ih _ _ _ hw ha)
  | agg xs xs' hx ex=>
   obtain⟨ys,he,hl⟩:=AH.Ce.1 (.agg xs xs' hx ex);cases he
   simp only[B7,GS]at h;obtain⟨l,hl1,rfl⟩:=h;exact AH.Ce.2 ⟨_,rfl,G7 ih _ _ _ hl1 hl⟩
  | tuple xs xs' hx ex=>
   obtain⟨ys,he,hl⟩:=AH.CE.1 (.tuple xs xs' hx ex);cases he
   simp only[B7,GS]at h;obtain⟨l,hl1,rfl⟩:=h;exact AH.CE.2 ⟨_,rfl,G7 ih _ _ _ hl1 hl⟩
  | func fn fn' xs xs' ys ys' hf hx ex hy ey=>
   obtain⟨fn2,xs2,ys2,he,hf2,hx2,hy2⟩:=AH.CL.1 (.func fn fn' xs xs' ys ys' hf hx ex hy ey);cases he
   cases hf2 with
   | func f=>
    simp only[B7]at h;split at h
    ·rename_i a b e1 e2;cases h
     exact AH.CL.2 ⟨_,_,_,rfl,.func f,G7 ih _ _ _ e1 hx2,G7 ih _ _ _ e2 hy2⟩
    ·cases h
   | _=>simp[B7]at h
theorem PW (hρ:∀b i T,ρ b=some i->ν i=some T->μ b=some T):∀(n:Nat) (v v1 v':Value),B7 ρ n v=some v1->AH ν v1 v'->AH μ v v':=by
 intro n;induction n with
 | zero=>intro v v1 v' h;cases h
 | succ n ih=>
  intro v v1 v' h hr;unfold B7 at h;split at h
  ·cases h;cases hr;exact .bool _
  ·cases h;cases hr;exact .int _ _
  ·cases h;cases hr;exact .float _ _
  ·cases h;cases hr;exact .string _
  ·cases h;cases hr;exact .Hw
  ·simp only[GS]at h;obtain⟨a,ha,rfl⟩:=h;obtain⟨b1,o1,s1,i,rfl,e2,rfl⟩:=Eu ha;cases hr with
   | ptr _ _ T hm=>exact .ptr b1 _ T (hρ _ _ _ e2 hm)
   | HS _ _ j T hm hlo=>exact .HS b1 _ j T (hρ _ _ _ e2 hm) hlo
   | HY _ _ j T M hm hm2 hcu=>exact .HY b1 _ j T M (hρ _ _ _ e2 hm) hm2 hcu
  ·cases h;cases hr;exact .CN _ _
  ·simp only[GS]at h;obtain⟨a,ha,rfl⟩:=h;obtain⟨b1,o1,s1,i,rfl,e2,rfl⟩:=Eu ha;cases hr with
   | slice _ _ _ _ c' o' T hm hc ho=>exact .slice b1 _ _ _ c' o' T (hρ _ _ _ e2 hm) hc ho
   | Bk _ j _ _ c' o' T hm hc ho hr=>exact .Bk b1 j _ _ c' o' T (hρ _ _ _ e2 hm) hc ho hr
   | DW _ j _ T z hm hc=>exact .DW b1 j _ T z (hρ _ _ _ e2 hm) hc
   | Cl _ j _ _ c' o' T M hm hm2 hc ho hr=>exact .Cl b1 j _ _ c' o' T M (hρ _ _ _ e2 hm) hm2 hc ho hr
   | F9 _ j _ T z hm hc=>exact .F9 b1 j _ T z (hρ _ _ _ e2 hm) hc
  ·cases h;cases hr;exact .IC
  ·simp only[GS]at h;obtain⟨i,hi,rfl⟩:=h;cases hr with
   | map _ T hm=>exact .map _ T (hρ _ _ _ hi hm)
  ·cases h;cases hr;exact .nilFunc
  ·cases h;cases hr;exact .nilIface
  ·simp only[GS]at h;obtain⟨w,hw,rfl⟩:=h;cases hr with
   | iface _ _ a' ha=>exact .iface _ _ a' (ih _ _ _ hw ha)
  ·simp only[GS]at h;obtain⟨l,hl,rfl⟩:=h;obtain⟨ys,rfl,hl2⟩:=AH.Ce.1 hr;exact AH.Ce.2 ⟨_,rfl,GF ih _ _ _ hl hl2⟩
  ·simp only[GS]at h;obtain⟨l,hl,rfl⟩:=h;obtain⟨ys,rfl,hl2⟩:=AH.CE.1 hr;exact AH.CE.2 ⟨_,rfl,GF ih _ _ _ hl hl2⟩
  ·split at h
   ·rename_i a b e1 e2;cases h
    obtain⟨fn2,xs2,ys2,rfl,hf2,hx2,hy2⟩:=AH.CL.1 hr;cases hf2
    exact AH.CL.2 ⟨_,_,_,rfl,.func _,GF ih _ _ _ e1 hx2,GF ih _ _ _ e2 hy2⟩
   ·cases h
  ·exact .Bv _
  ·cases h
def IJ:SK->Bool
 | .tok=>false
 | _=>true
theorem D9 (l:List (EK.C [.tok])):Ag [.tok] l=l:=by
 induction l with
 | nil=>rfl
 | cons x l ih=>rw[DP,ih];rfl
def IF (f:Value->C1):List (EK.C [.str,.tok])->Option (List (EK.C [.str,.tok]))
 | []=>some []
 | x::r=>match f x.2,IF f r with
  | some w,some m=>some ((x.1,w)::m)
  | _,_=>none
theorem Rl {f:Value->C1} (hf:∀s,f (.string s)=some (.string s)):∀(l m:List (EK.C [.str,.tok])),IF f l=some m->DB f (Ag [.str,.tok] l)=some (Ag [.str,.tok] m)
 | [],m,h=>by cases h;rfl
 | x::r,m,h=>by
  simp only[IF]at h;split at h
  ·rename_i w m2 e1 e2;cases h
   have ih:=Rl hf r m2 e2;show DB f (Value.string x.1::x.2::Ag [.str,.tok] r)=some (Value.string x.1::w::Ag [.str,.tok] m2);simp only[DB,hf,e1,ih]
  ·cases h
theorem KZ {f:Value->C1}:∀(l m:List (EK.C [.str,.tok])),IF f l=some m->m.length=l.length
 | [],_,h=>by cases h;rfl
 | x::l,l1,h=>by
  simp only[IF]at h;split at h
  ·rename_i w m e1 e2;cases h;simp[KZ l m e2]
  ·cases h
def BV (ρ:Ren):AP->Option AP
 | .cells cs e ro=>(DB (Dr ρ) cs).map fun l=> .cells l e ro
 | .vec [.tok] l ro=>(DB (Dr ρ) l).map fun l=> .vec [.tok] l ro
 | .vec [.str,.tok] l ro=>(IF (Dr ρ) l).map fun l=> .vec [.str,.tok] l ro
 | .vec k l ro=>bif k.all IJ then some (.vec k l ro)else none
 | .abs a ro=>bif a.HT then some (.abs a ro)else none
 | _=>none
theorem ID {ρ:Ren}:∀(k:EK) (_:k.all IJ=true) (l:List (EK.C k)) (ro:Bool),BV ρ (.vec k l ro)=some (.vec k l ro)
 | [],_,_,_=>rfl
 | [.tok],hk,_,_=>by cases hk
 | [.int _],_,_,_=>rfl
 | [.bool],_,_,_=>rfl
 | [.str],_,_,_=>rfl
 | [.str,.tok],hk,_,_=>by cases hk
 | s::t::r,hk,l,ro=>by
  cases s with
  | tok=>cases hk
  | str=>cases t with
   | tok=>cases hk
   | _=>show(bif List.all _ IJ then some (AP.vec _ l ro)else none)=_;rw[hk];rfl
  | _=>show(bif List.all _ IJ then some (AP.vec _ l ro)else none)=_;rw[hk];rfl
theorem Qu {ρ:Ren} {k:EK} {l:List (EK.C k)} {ro:Bool} {o1:AP} (h:BV ρ (.vec k l ro)=some o1):
 (∃l' l1:List (EK.C [.tok]),(⟨k,l⟩:(k:EK) × List (EK.C k))=⟨[.tok],l'⟩/\DB (Dr ρ) l'=some l1/\o1= .vec [.tok] l1 ro)∨(k.all IJ=true/\o1= .vec k l ro)∨
 (∃l' l1:List (EK.C [.str,.tok]),(⟨k,l⟩:(k:EK) × List (EK.C k))=⟨[.str,.tok],l'⟩/\IF (Dr ρ) l'=some l1/\o1= .vec [.str,.tok] l1 ro):=by
 unfold BV at h;split at h
 ·rename_i heq;cases heq
 ·rename_i l2 ro2 he;cases he
  simp only[GS]at h;obtain⟨l1,hl,rfl⟩:=h;exact .inl ⟨l2,l1,rfl,hl,rfl⟩
 ·rename_i l2 ro2 he;cases he
  simp only[GS]at h;obtain⟨l1,hl,rfl⟩:=h;exact .inr (.inr ⟨l2,l1,rfl,hl,rfl⟩)
 ·rename_i k2 l2 ro2 hne hne2 he;injection he with e1 e2 e3
  subst e1;cases e2
  subst e3;cases hk:k.all IJ
  ·simp[hk]at h
  ·simp only[hk,C8,C5]at h;exact .inr (.inl ⟨rfl,h.symm⟩)
 ·rename_i heq;cases heq
 ·cases h
theorem XH {ρ:Ren} {l l1:List (EK.C [.tok])} {ro:Bool} (h:DB (Dr ρ) l=some l1):BV ρ (.vec [.tok] l ro)=some (.vec [.tok] l1 ro):=by
 show(DB (Dr ρ) l).map _=_;rw[h];rfl
theorem TK {ρ:Ren} {l l1:List (EK.C [.str,.tok])} {ro:Bool} (h:IF (Dr ρ) l=some l1):BV ρ (.vec [.str,.tok] l ro)=some (.vec [.str,.tok] l1 ro):=by
 show(IF (Dr ρ) l).map _=_;rw[h];rfl
theorem EJ {f:Value->C1}:∀(l l1:AL),DB f l=some l1->l1.length=l.length
 | [],_,h=>by cases h;rfl
 | v::l,l1,h=>by
  simp only[DB]at h;split at h
  ·rename_i w m e1 e2;cases h;simp[EJ l m e2]
  ·cases h
theorem SK.HA (s:SK) (hs:IJ s=true) (x:s.C):flat (s.enc x)=true:=by
 cases s<;>first | rfl | cases hs
theorem EK.HA:∀(k:EK),k.all IJ=true->∀(x:EK.C k),∀v∈EK.enc k x,flat v=true
 | [],_,_,v,h=>by cases h
 | [s],hk,x,v,h=>by
  simp only[EK.enc,Q4]at h;subst h;exact SK.HA s (by simpa using hk) x
 | s::t::r,hk,x,v,h=>by
  simp only[EK.enc,Ul]at h;simp only[lf,Dg]at hk;rcases h with rfl | h
  ·exact SK.HA s hk.1 _
  ·exact EK.HA (t::r) (by simpa using hk.2) x.2 v (by simpa using h)
theorem Nz:∀(l:AL),(∀v∈l,flat v=true)->∀l',Am μ l l'->Am ν l l'
 | [],_,_,h=>by cases h;exact .nil
 | v::l,hf,_,h=>by
  cases h with
  | cons h1 h2=>
   have:=LN (hf v (by simp)) h1;subst this;exact .cons (D5 (hf _ (by simp))) (Nz l (fun w hw=>hf w (by simp[hw])) _ h2)
theorem TQ {k:EK} (hk:k.all IJ=true) (l:List (EK.C k)):∀v∈Ag k l,flat v=true:=by
 intro v hv;simp only[Ag,List.mem_flatMap]at hv;obtain⟨x,_,hx⟩:=hv;exact EK.HA k hk x v hx
theorem VS (hρ:∀b i T,ρ b=some i->μ b=some T->ν i=some T) {o o1:AP} {T:Bc} {o':Obj} (h:BV ρ o=some o1) (hr:CZ μ T o o'):CZ ν T o1 o':=by
 unfold BV at h;split at h
 ·simp only[GS]at h;obtain⟨l,hl,rfl⟩:=h;cases hr with
  | cells _ _ _ c t lo hi he hc hr hf=>
   have:=EJ _ _ hl;exact .cells T l _ _ c t lo hi he (by rw[this];exact G7 (Pd hρ 6) _ _ _ hl hc) hr hf
 ·rename_i l ro;simp only[GS]at h;obtain⟨l1,hl,rfl⟩:=h;have hl:DB (Dr ρ) l=some l1:=hl;cases hr with
  | vec _ _ _ _ hc=>
   refine .vec T [.tok] l1 ro _ ?_;rw[D9]at hc ⊢;cases hc with
   | cells _ _ _ c t lo hi he hc hr hf=>
    have:=EJ _ _ hl;exact .cells T l1 _ _ c t lo hi he (by rw[this];exact G7 (Pd hρ 6) _ _ _ hl hc) hr hf
  | Du _ _ _ he hr hk=>cases hl;exact .Du T _ _ _ he hr hk
 ·rename_i l ro;simp only[GS]at h;obtain⟨l1,hl,rfl⟩:=h;have hl2:=Rl (f:=Dr ρ) (fun _=>rfl) l l1 hl;cases hr with
  | vec _ _ _ _ hc=>
   refine .vec T [.str,.tok] l1 ro _ ?_;cases hc with
   | cells _ _ _ c t lo hi he hc hr hf=>
    have:=EJ _ _ hl2;exact .cells T _ _ _ c t lo hi he (by rw[this];exact G7 (Pd hρ 6) _ _ _ hl2 hc) hr hf
  | Du _ _ _ he hr hk=>cases hl;exact .Du T _ _ _ he hr hk
 ·rename_i k l ro _ _;cases hk:k.all IJ
  ·simp[hk]at h
  ·simp only[hk,C8,C5]at h;subst h;cases hr with
   | vec _ _ _ _ hc=>cases hc with
    | cells _ _ _ c t lo hi he hc hr hf=>exact .vec T _ _ _ _ (.cells T _ _ _ c t lo hi he (Nz _ (TQ hk l) _ hc) hr hf)
   | Du _ _ _ he hr hk=>exact .Du T _ _ _ he hr hk
 ·rename_i a ro;cases hx:a.HT
  ·simp[hx]at h
  ·simp only[hx,C8,C5]at h;subst h;cases hr;exact .abs T _ _ _
 ·cases h
theorem R1 (hρ:∀b i T,ρ b=some i->ν i=some T->μ b=some T) {o o1:AP} {T:Bc} {o':Obj} (h:BV ρ o=some o1) (hr:CZ ν T o1 o'):CZ μ T o o':=by
 unfold BV at h;split at h
 ·simp only[GS]at h;obtain⟨l,hl,rfl⟩:=h;cases hr with
  | cells _ _ _ c t lo hi he hc hr hf=>
   have:=EJ _ _ hl;exact .cells T _ _ _ c t lo hi he (by rw[<-this];exact GF (PW hρ 6) _ _ _ hl hc) hr hf
 ·rename_i l ro;simp only[GS]at h;obtain⟨l1,hl,rfl⟩:=h;have hl:DB (Dr ρ) l=some l1:=hl;have hlen:=EJ _ _ hl;cases hr with
  | vec _ _ _ _ hc=>
   refine .vec T [.tok] l ro _ ?_;rw[D9]at hc ⊢;cases hc with
   | cells _ _ _ c t lo hi he hc hr hf=>
    exact .cells T _ _ _ c t lo hi he (by rw[<-hlen];exact GF (PW hρ 6) _ _ _ hl hc) hr hf
  | Du _ _ _ he hr hk=>
   have:l=[]:=Ss (by rw[<-hlen];rfl);subst this;exact .Du T _ _ _ he hr hk
 ·rename_i l ro;simp only[GS]at h;obtain⟨l1,hl,rfl⟩:=h;have hl2:=Rl (f:=Dr ρ) (fun _=>rfl) l l1 hl;have hlen:=EJ _ _ hl2;cases hr with
  | vec _ _ _ _ hc=>
   refine .vec T [.str,.tok] l ro _ ?_;cases hc with
   | cells _ _ _ c t lo hi he hc hr hf=>
    exact .cells T _ _ _ c t lo hi he (by rw[<-hlen];exact GF (PW hρ 6) _ _ _ hl2 hc) hr hf
  | Du _ _ _ he hr hk=>
   have:l=[]:=Ss (by rw[<-KZ _ _ hl];rfl);subst this;exact .Du T _ _ _ he hr hk
 ·rename_i k l ro _ _;cases hk:k.all IJ
  ·simp[hk]at h
  ·simp only[hk,C8,C5]at h;subst h;cases hr with
   | vec _ _ _ _ hc=>cases hc with
    | cells _ _ _ c t lo hi he hc hr hf=>exact .vec T _ _ _ _ (.cells T _ _ _ c t lo hi he (Nz _ (TQ hk l) _ hc) hr hf)
   | Du _ _ _ he hr hk=>exact .Du T _ _ _ he hr hk
 ·rename_i a ro;cases hx:a.HT
  ·simp[hx]at h
  ·simp only[hx,C8,C5]at h;subst h;cases hr;exact .abs T _ _ _
 ·cases h
theorem EO {o o1:AP} (h:BV ρ o=some o1):o1.ro=o.ro/\o1.isAbs=o.isAbs/\∀a ro,o1= .abs a ro->o= .abs a ro/\a.ext=[]:=by
 unfold BV at h;split at h
 ·simp only[GS]at h;obtain⟨l,hl,rfl⟩:=h;exact⟨rfl,rfl,fun a ro e=>by cases e⟩
 ·rename_i l ro;simp only[GS]at h;obtain⟨l1,hl,rfl⟩:=h;exact⟨rfl,rfl,fun a ro e=>by cases e⟩
 ·rename_i l ro;simp only[GS]at h;obtain⟨l1,hl,rfl⟩:=h;exact⟨rfl,rfl,fun a ro e=>by cases e⟩
 ·rename_i k l ro _ _;cases hk:k.all IJ
  ·simp[hk]at h
  ·simp only[hk,C8,C5]at h;subst h;exact⟨rfl,rfl,fun a ro e=>by cases e⟩
 ·rename_i a ro;cases hx:a.HT
  ·simp[hx]at h
  ·simp only[hx,C8,C5]at h;subst h;exact⟨rfl,rfl,fun a2 ro2 e=>by cases e;exact⟨rfl,Ct.RD hx⟩⟩
 ·cases h
theorem CD {o o1:AP} (h:BV ρ o=some o1) (T:Bc):o1.void T ↔ o.void T:=by
 unfold BV at h;split at h
 ·simp only[GS]at h;obtain⟨l,hl,rfl⟩:=h;exact AAZ
 ·rename_i l ro;simp only[GS]at h;obtain⟨l1,hl,rfl⟩:=h;have hlen:=EJ _ _ (show DB (Dr ρ) l=some l1 from hl);have e:l1=[] ↔ l=[]:=⟨fun e=>Ss (by rw[<-hlen,e];rfl),fun e=>Ss (by rw[hlen,e];rfl)⟩;exact ABk e AAZ
 ·rename_i l ro;simp only[GS]at h;obtain⟨l1,hl,rfl⟩:=h;have hlen:=KZ _ _ hl;have e:l1=[] ↔ l=[]:=⟨fun e=>Ss (by rw[<-hlen,e];rfl),fun e=>Ss (by rw[hlen,e];rfl)⟩;exact ABk e AAZ
 ·rename_i k l ro _ _;cases hk:k.all IJ
  ·simp[hk]at h
  ·simp only[hk,C8,C5]at h;subst h;exact AAZ
 ·rename_i a ro;cases hx:a.HT
  ·simp[hx]at h
  ·simp only[hx,C8,C5]at h;subst h;exact AAZ
 ·cases h
end
def my (Hc H H':AA) (ρ:Ren) (v vc:Value) (Hf:AA):Prop:=∃ρ':Ren,
 (∀b1 b2 i,ρ' b1=some i->ρ' b2=some i->b1=b2)/\(∀b,b < Hc.next->ρ' b=ρ b)/\(∀b i,ρ' b=some i->Hc.next<=b->H.next<=i/\i < H'.next)/\
 (∀i o,H'.get i=some o->(H.next<=i∨∃b o0,Hc.get b=some o0/\o0.ro=false/\ρ b=some i)->∃b o0,ρ' b=some i/\Hf.get b=some o0/\BV ρ' o0=some o/\o0.ro=false)/\
 Dr ρ' vc=some v
abbrev Rn:=Nat->Option Nat
def j7 (ρ:Rn):Fn->Option Fn
 | .yield l=>(ρ l).map .yield
 | f=>some f
def XO (ρ:Rn):Nat->Value->Value
 | 0,_=>Bv
 | n+1,v=>match v with
  | .pointer (some ⟨b,o,s⟩)=>match ρ b with
   | some i=> .pointer (some ⟨i,o,s⟩)
   | none=>Bv
  | .slice (some ⟨b,o,s⟩) l c=>match ρ b with
   | some i=> .slice (some ⟨i,o,s⟩) l c
   | none=>Bv
  | .map (some b)=>match ρ b with
   | some i=> .map (some i)
   | none=>Bv
  | .iface t v=> .iface t (XO ρ n v)
  | .agg cs=> .agg ⟨cs.toList.map (XO ρ n)⟩
  | .tuple cs=> .tuple ⟨cs.toList.map (XO ρ n)⟩
  | .func f xs ys=>match j7 ρ f with
   | some f'=> .func f' ⟨xs.toList.map (XO ρ n)⟩ ⟨ys.toList.map (XO ρ n)⟩
   | none=>Bv
  | v=>v
abbrev Np (ρ:Rn) (v:Value):Value:=XO ρ 8 v
section
variable {ρ:Rn} {μ ν:Ae}
theorem Ww (hρ:∀b i T,ρ b=some i->μ b=some T->ν i=some T) {f g f':Fn} (h:j7 ρ f=some g) (hr:Ii μ f f'):Ii ν g f':=by
 cases hr with
 | func f=>cases h;exact .func f
 | method n=>cases h;exact .method n
 | methodOf t n=>cases h;exact .methodOf t n
 | via t p f b=>cases h;exact .via t p f b
 | yield l T hm=>
  simp only[j7,GS]at h;obtain⟨i,hi,rfl⟩:=h;exact .yield i T (hρ _ _ _ hi hm)
theorem Gs {f:Value->Value} (hf:∀v v',AH μ v v'->AH ν (f v) v'):∀{l l':AL},Am μ l l'->Am ν (l.map f) l'
 | _,_,.nil=> .nil
 | _,_,.cons h t=> .cons (hf _ _ h) (Gs hf t)
theorem It (hρ:∀b i T,ρ b=some i->μ b=some T->ν i=some T):∀(n:Nat) (v v':Value),AH μ v v'->AH ν (XO ρ n v) v':=by
 intro n;induction n with
 | zero=>intro v v' _;exact .Bv _
 | succ n ih=>
  intro v v' hr;cases hr with
  | Bv=>exact .Bv _
  | bool b=>exact .bool b
  | int k m=>exact .int k m
  | float k m=>exact .float k m
  | string s=>exact .string s
  | Hw=>exact .Hw
  | CN l c=>exact .CN l c
  | IC=>exact .IC
  | nilFunc=>exact .nilFunc
  | nilIface=>exact .nilIface
  | ptr b o T hm=>
   simp only[XO];cases hb:ρ b with
   | none=>exact .Bv _
   | some i=>exact .ptr i o T (hρ _ _ _ hb hm)
  | HY b o j T M hm hm2 hcu=>
   simp only[XO];cases hb:ρ b with
   | none=>exact .Bv _
   | some i=>exact .HY i o j T M (hρ _ _ _ hb hm) hm2 hcu
  | HS b o j T hm hlo=>
   simp only[XO];cases hb:ρ b with
   | none=>exact .Bv _
   | some i=>exact .HS i o j T (hρ _ _ _ hb hm) hlo
  | slice b o l c c' o' T hm hc ho=>
   simp only[XO];cases hb:ρ b with
   | none=>exact .Bv _
   | some i=>exact .slice i o l c c' o' T (hρ _ _ _ hb hm) hc ho
  | Bk b j l c c' o' T hm hc ho hr=>
   simp only[XO];cases hb:ρ b with
   | none=>exact .Bv _
   | some i=>exact .Bk i j l c c' o' T (hρ _ _ _ hb hm) hc ho hr
  | DW b j c T z hm hc=>
   simp only[XO];cases hb:ρ b with
   | none=>exact .Bv _
   | some i=>exact .DW i j c T z (hρ _ _ _ hb hm) hc
  | Cl b j l c c' o' T M hm hm2 hc ho hr=>
   simp only[XO];cases hb:ρ b with
   | none=>exact .Bv _
   | some i=>exact .Cl i j l c c' o' T M (hρ _ _ _ hb hm) hm2 hc ho hr
  | F9 b j c T z hm hc=>
   simp only[XO];cases hb:ρ b with
   | none=>exact .Bv _
   | some i=>exact .F9 i j c T z (hρ _ _ _ hb hm) hc
  | map b T hm=>
   simp only[XO];cases hb:ρ b with
   | none=>exact .Bv _
   | some i=>exact .map i T (hρ _ _ _ hb hm)
  | iface t a a' ha=>exact .iface t _ a' (ih _ _ ha)
  | agg xs xs' hx ex=>
   obtain⟨ys,he,hl⟩:=AH.Ce.1 (.agg xs xs' hx ex);cases he
   exact AH.Ce.2 ⟨_,rfl,Gs ih hl⟩
  | tuple xs xs' hx ex=>
   obtain⟨ys,he,hl⟩:=AH.CE.1 (.tuple xs xs' hx ex);cases he
   exact AH.CE.2 ⟨_,rfl,Gs ih hl⟩
  | func fn fn' xs xs' ys ys' hf hx ex hy ey=>
   obtain⟨fn2,xs2,ys2,he,hf2,hx2,hy2⟩:=AH.CL.1 (.func fn fn' xs xs' ys ys' hf hx ex hy ey);cases he
   simp only[XO];cases hb:j7 ρ fn with
   | none=>exact .Bv _
   | some g=>exact AH.CL.2 ⟨_,_,_,rfl,Ww hρ hb hf2,Gs ih hx2,Gs ih hy2⟩
end
def Tr.Ym (f:Value->Value) (t:Tr Value):Tr Value:=
 Tr.rec (motive:=fun _=>Tr Value) .leaf (fun _ v _ ihl ihr=> .node ihl (v.map f) ihr) t
theorem Tr.Wh (f:Value->Value) (t:Tr Value) (i:Nat):(t.Ym f).get i=(t.get i).map f:=by
 unfold Tr.get;generalize Hj.of i=p;induction t generalizing p with
 | leaf=>cases p<;>rfl
 | node l v r ihl ihr=>
  cases p with
  | e=>rfl
  | z p=>exact ihl p
  | o p=>exact ihr p
def Qd (f:Value->Value) (t:Tr Value):AW->Tr Value
 | []=> .leaf
 | i::r=>(Qd f t r).put i (some (f (look t i)))
theorem Jm (f:Value->Value) (t:Tr Value):∀(l:AW) (i:Nat),look (Qd f t l) i=Bv∨look (Qd f t l) i=f (look t i)
 | [],i=> .inl rfl
 | j::r,i=>by
  unfold Qd look;rw[Tr.AU]
  by_cases e:i=j
  ·subst e;rw[MB rfl];exact .inr rfl
  ·rw[JT e];exact Jm f t r i
section
variable {ρ:Rn} {μ ν:Ae}
theorem Rx (hρ:∀b i T,ρ b=some i->μ b=some T->ν i=some T) {t:Tr Value} {n:Nat} {a:BR} (h:Gj μ t n a):Gj ν (t.Ym (Np ρ)) n a:=by
 refine⟨h.1,fun i=>?_⟩;have:=h.2 i;unfold look at this ⊢;rw[Tr.Wh];cases hg:t.get i with
 | none=>exact .Bv _
 | some v=>rw[hg]at this;exact It hρ 8 _ _ this
theorem S6 (hρ:∀b i T,ρ b=some i->μ b=some T->ν i=some T) {t:Tr Value} {n:Nat} {a:BR} (h:Gj μ t n a) (l:AW):Gj ν (Qd (Np ρ) t l) n a:=by
 refine⟨h.1,fun i=>?_⟩;rcases Jm (Np ρ) t l i with e | e
 ·rw[e];exact .Bv _
 ·rw[e];exact It hρ 8 _ _ (h.2 i)
end
def kT (ρ:Rn):B9->Option B9
 | .Ee _ _=>none
 | .inRangeFunc l=>(ρ l).map .inRangeFunc
 | .endRangeFunc l=>(ρ l).map .endRangeFunc
 | x=>some x
def P0 (ρ:Rn):List B9->Option (List B9)
 | []=>some []
 | x::r=>match kT ρ x,P0 ρ r with
  | some y,some l=>some (y::l)
  | _,_=>none
def mI (ρ:Rn):Target->Option Target
 | .collected b=>(ρ b).map .collected
 | .fn f ys=>(j7 ρ f).map fun g=> .fn g ⟨ys.toList.map (Np ρ)⟩
 | t=>some t
def ca (ρ:Rn):List Deferred->Option (List Deferred)
 | []=>some []
 | d::r=>match mI ρ d.target,ca ρ r with
  | some t,some l=>some (⟨t,⟨d.args.toList.map (Np ρ)⟩⟩::l)
  | _,_=>none
def lT (ρ:Rn):Option Nat->Option (Option Nat)
 | none=>some none
 | some l=>(ρ l).map some
section
variable {ρ:Rn} {μ ν:Ae}
theorem gT (hρ:∀b i T,ρ b=some i->μ b=some T->ν i=some T) {x y:B9} {x':Item} (h:kT ρ x=some y) (hr:IY μ x x'):IY ν y x':=by
 cases hr with
 | code c=>cases h;exact .code c
 | inBlock i=>cases h;exact .inBlock i
 | inLoop c=>cases h;exact .inLoop c
 | inScope c=>cases h;exact .inScope c
 | Kr ops l idx hh=>cases h;exact .Kr ops l idx hh
 | beginRound=>cases h;exact .beginRound
 | inRangeFunc l T hm=>
  simp only[kT,GS]at h;obtain⟨i,hi,rfl⟩:=h;exact .inRangeFunc i T (hρ _ _ _ hi hm)
 | endRangeFunc l T hm=>
  simp only[kT,GS]at h;obtain⟨i,hi,rfl⟩:=h;exact .endRangeFunc i T (hρ _ _ _ hi hm)
theorem I5 (hρ:∀b i T,ρ b=some i->μ b=some T->ν i=some T) {l l1:List B9} {l':List Item} (h:P0 ρ l=some l1) (hr:EU μ l l'):EU ν l1 l':=by
 induction hr generalizing l1 with
 | nil=>cases h;exact .nil
 | cons hx _ ih=>
  simp only[P0]at h;split at h
  ·rename_i y m e1 e2;cases h;exact .cons (gT hρ e1 hx) (ih e2)
  ·cases h
theorem fq (hρ:∀b i T,ρ b=some i->μ b=some T->ν i=some T) {t t1 t':Target} (h:mI ρ t=some t1) (hr:Is μ t t'):Is ν t1 t':=by
 cases hr with
 | nil=>cases h;exact .nil
 | builtin b ts t cs=>cases h;exact .builtin b ts t cs
 | collected r T hm=>
  simp only[mI,GS]at h;obtain⟨i,hi,rfl⟩:=h;exact .collected i T (hρ _ _ _ hi hm)
 | fn fn fn' ys ys' hf hy=>
  simp only[mI,GS]at h;obtain⟨g,hg,rfl⟩:=h;exact .fn _ _ _ _ (Ww hρ hg hf) (Gs (It hρ 8) hy)
theorem JG (hρ:∀b i T,ρ b=some i->μ b=some T->ν i=some T) {l l1 l':List Deferred} (h:ca ρ l=some l1) (hr:CT μ l l'):CT ν l1 l':=by
 induction hr generalizing l1 with
 | nil=>cases h;exact .nil
 | cons hx _ ih=>
  simp only[ca]at h;split at h
  ·rename_i t m e1 e2;cases h;exact .cons ⟨fq hρ e1 hx.w6,Gs (It hρ 8) hx.args⟩ (ih e2)
  ·cases h
theorem KX (hρ:∀b i T,ρ b=some i->μ b=some T->ν i=some T) {x y:Option Nat} {x':Option Nat} (h:lT ρ x=some y) (hr:HW μ x x'):HW ν y x':=by
 cases hr with
 | none=>cases h;exact .none
 | some l T hm=>
  simp only[lT,GS]at h;obtain⟨i,hi,rfl⟩:=h;exact .some i T (hρ _ _ _ hi hm)
end
def Fv:SK->Bool
 | .tok=>false
 | _=>true
def tS (ρ:Rn) (l:List MapEntry):List MapEntry:=l.map fun e=>⟨Np ρ e.key,Np ρ e.val,e.born⟩
def YJ (ρ:Rn) (l:List (EK.C [.str,.tok])):List (EK.C [.str,.tok]):=List.map (fun x=>(x.1,Np ρ x.2)) l
theorem aJ (ρ:Rn):∀l:List (EK.C [.str,.tok]),Ag [.str,.tok] (YJ ρ l)=List.map (Np ρ) (Ag [.str,.tok] l)
 | []=>rfl
 | x::r=>by
  have ih:=aJ ρ r;show Value.string x.1::Np ρ x.2::Ag [.str,.tok] (YJ ρ r)=_;rw[ih];rfl
def Uy (ρ:Rn):AP->Option AP
 | .cells cs e ro=>some (.cells (cs.map (Np ρ)) e ro)
 | .vec [.tok] l ro=>some (.vec [.tok] (List.map (Np ρ) l) ro)
 | .vec [.str,.tok] l ro=>some (.vec [.str,.tok] (YJ ρ l) ro)
 | .vec k l ro=>bif k.all Fv then some (.vec k l ro)else none
 | .abs a ro=>bif a.HT then some (.abs a ro)else none
 | .Ca s p=>some (.Ca s p)
 | .deferred none=>some (.deferred none)
 | .deferred (some l)=>(ca ρ l).map fun l=> .deferred (some l)
 | .map es clock=>some (.map (tS ρ es) clock)
 | .loop q=>(ρ q.defers).map fun d=> .loop ⟨q.state,q.pending,q.fn,q.tmps.Ym (Np ρ),q.n,q.params,q.assign,q.body,d⟩
section
variable {ρ:Rn} {μ ν:Ae}
theorem Zt:∀(k:EK),k.all Fv=true->∀(x:EK.C k) (v:Value),v∈EK.enc k x->∃s y,Fv s=true/\v=SK.enc s y
 | [],_,_,v,h=>by cases h
 | [s],hk,x,v,h=>by
  simp only[EK.enc,Q4]at h;exact⟨s,x,by simpa using hk,h⟩
 | s::t::r,hk,x,v,h=>by
  simp only[EK.enc,Ul]at h;have hk:Fv s=true/\(t::r).all Fv=true:=by simpa only[lf,Dg] using hk
  rcases h with h | h
  ·exact⟨s,x.1,hk.1,h⟩
  ·exact Zt (t::r) hk.2 x.2 v h
theorem NY (k:EK) (hk:k.all Fv=true) (l:List (EK.C k)) {l':AL} (h:Am μ (Ag k l) l'):Am ν (Ag k l) l':=by
 have hs:∀(s:SK),Fv s=true->∀(x:s.C) (v':Value),AH μ (s.enc x) v'->AH ν (s.enc x) v':=by
  intro s hs x v' h;cases s with
  | int k=>have h:AH μ (.int k x) v':=h;cases h;exact .int _ _
  | bool=>have h:AH μ (.bool x) v':=h;cases h;exact .bool _
  | str=>have h:AH μ (.string x) v':=h;cases h;exact .string _
  | tok=>cases hs
 have key:∀(vs:AL),(∀v∈vs,∃s x,Fv s=true/\v=SK.enc s x)->∀l',Am μ vs l'->Am ν vs l':=by
  intro vs;induction vs with
  | nil=>intro _ l' h;cases h;exact .nil
  | cons v vs ih=>
   intro hv l' h;cases h with
   | cons h1 h2=>
    obtain⟨s,x,a,rfl⟩:=hv v (by simp);exact .cons (hs s a x _ h1) (ih (fun w hw=>hv w (by simp[hw])) _ h2)
 refine key _ ?_ _ h;intro v hv;unfold Ag at hv;rw[List.mem_flatMap]at hv;obtain⟨x,_,hx⟩:=hv;exact Zt k hk x v hx
theorem dE (l:List (EK.C [.tok])):Ag [.tok] l=l:=by
 induction l with
 | nil=>rfl
 | cons x l ih=>rw[DP,ih];rfl
theorem PV {k:EK} {l:List (EK.C k)} {ro:Bool} {o1:AP} (h:Uy ρ (.vec k l ro)=some o1):(∃l':List (EK.C [.tok]),(⟨k,l⟩:(k:EK) × List (EK.C k))=⟨[.tok],l'⟩/\o1= .vec [.tok] (List.map (Np ρ) l') ro)∨(k.all Fv=true/\o1= .vec k l ro)∨
 (∃l':List (EK.C [.str,.tok]),(⟨k,l⟩:(k:EK) × List (EK.C k))=⟨[.str,.tok],l'⟩/\o1= .vec [.str,.tok] (YJ ρ l') ro):=by
 unfold Uy at h;split at h
 ·rename_i heq;cases heq
 ·rename_i l2 ro2 he;cases he
  cases h
  exact .inl ⟨l2,rfl,rfl⟩
 ·rename_i l2 ro2 he;cases he
  cases h
  exact .inr (.inr ⟨l2,rfl,rfl⟩)
 ·rename_i k2 l2 ro2 hne hne2 he;injection he with e1 e2 e3
  subst e1;cases e2
  subst e3;cases hk:k.all Fv
  ·simp[hk]at h
  ·simp only[hk,C8,C5]at h;exact .inr (.inl ⟨rfl,h.symm⟩)
 all_goals (rename_i heq;cases heq)
theorem Z9 (hρ:∀b i T,ρ b=some i->μ b=some T->ν i=some T) {o o1:AP} {T:Bc} {o':Obj} (h:Uy ρ o=some o1) (hr:CZ μ T o o'):CZ ν T o1 o':=by
 cases hr with
 | cells cs e ro c t lo hi he hc hs hf=>
  simp only[Uy,C5]at h;subst h;refine .cells T _ e ro c t lo hi he ?_ hs hf;rw[oB];exact Gs (It hρ 8) hc
 | loop l a R ht hd=>
  simp only[Uy,GS]at h;obtain⟨d,hd1,rfl⟩:=h;exact .loop T ⟨l.state,l.pending,l.fn,l.tmps.Ym (Np ρ),l.n,l.params,l.assign,l.body,d⟩ a R (Rx hρ ht) (hρ _ _ _ hd1 hd)
 | EW=>cases h;exact .EW T
 | deferred l l' hl=>
  simp only[Uy,GS]at h;obtain⟨d,hd1,rfl⟩:=h;exact .deferred T _ _ (JG hρ hd1 hl)
 | Ca s p hd=>cases h;exact .Ca T s p hd
 | map es es' clock he=>
  simp only[Uy,C5]at h;subst h;refine .map T _ es' clock ?_;generalize es'.toList=q at he;induction he with
  | nil=>exact .nil
  | cons hk hv hb _ ih=>exact .cons (It hρ 8 _ _ hk) (It hρ 8 _ _ hv) hb ih
 | vec k l ro o hc=>
  rcases PV h with⟨l2,e,rfl⟩ | ⟨hk,rfl⟩ | ⟨l2,e,rfl⟩
  ·cases e
   refine .vec T [.tok] _ ro o' ?_;rw[dE]at hc ⊢;cases hc with
   | cells cs e ro c t lo hi he hc hs hf=>
    refine .cells T _ _ ro c t lo hi he ?_ hs hf;rw[oB];exact Gs (It hρ 8) hc
  ·refine .vec T k l ro o' ?_;cases hc with
   | cells cs e ro c t lo hi he hc hs hf=>exact .cells T _ _ ro c t lo hi he (NY k hk l hc) hs hf
  ·cases e
   refine .vec T [.str,.tok] _ ro o' ?_;rw[aJ];cases hc with
   | cells cs e ro c t lo hi he hc hs hf=>
    refine .cells T _ _ ro c t lo hi he ?_ hs hf;rw[oB];exact Gs (It hρ 8) hc
 | Du k ro o he hr hk0=>
  rcases PV h with⟨l2,e,rfl⟩ | ⟨hk,rfl⟩ | ⟨l2,e,rfl⟩
  ·cases e
   exact .Du T [.tok] ro _ he hr hk0
  ·exact .Du T k ro _ he hr hk0
  ·cases e
   exact .Du T [.str,.tok] ro _ he hr hk0
 | abs a ro o=>
  simp only[Uy]at h;cases hx:a.HT
  ·simp[hx]at h
  ·simp only[hx,C8,C5]at h;subst h;exact .abs T a ro o'
theorem G3 {o o1:AP} (h:Uy ρ o=some o1) (T:Bc):o1.void T ↔ o.void T:=by
 cases o with
 | cells cs e ro=>cases h;exact AAZ
 | vec k l ro=>
  rcases PV h with⟨l2,e,rfl⟩ | ⟨hk,rfl⟩ | ⟨l2,e,rfl⟩
  ·cases e
   exact ABk (by simp) AAZ
  ·exact AAZ
  ·cases e
   exact ABk (by simp[YJ]) AAZ
 | abs a ro=>
  simp only[Uy]at h;cases hx:a.HT
  ·simp[hx]at h
  ·simp only[hx,C8,C5]at h;subst h;exact AAZ
 | Ca s p=>cases h;exact AAZ
 | deferred d=>
  cases d with
  | none=>cases h;exact AAZ
  | some l=>
   simp only[Uy,GS]at h;obtain⟨d,_,rfl⟩:=h;exact AAZ
 | map es clock=>cases h;exact AAZ
 | loop q=>
  simp only[Uy,GS]at h;obtain⟨d,_,rfl⟩:=h;exact AAZ
theorem HN {o o1:AP} (h:Uy ρ o=some o1):o1.ro=o.ro/\o1.isAbs=o.isAbs/\∀a ro,o1= .abs a ro->o= .abs a ro/\a.ext=[]:=by
 cases o with
 | cells cs e ro=>cases h;exact⟨rfl,rfl,fun _ _ e=>by cases e⟩
 | vec k l ro=>
  rcases PV h with⟨l2,e,rfl⟩ | ⟨hk,rfl⟩ | ⟨l2,e,rfl⟩
  ·cases e
   exact⟨rfl,rfl,fun _ _ e=>by cases e⟩
  ·exact⟨rfl,rfl,fun _ _ e=>by cases e⟩
  ·cases e
   exact⟨rfl,rfl,fun _ _ e=>by cases e⟩
 | abs a ro=>
  simp only[Uy]at h;cases hx:a.HT
  ·simp[hx]at h
  ·simp only[hx,C8,C5]at h;subst h
   exact⟨rfl,rfl,fun _ _ e=>by cases e;exact⟨rfl,Ct.RD hx⟩⟩
 | Ca s p=>cases h;exact⟨rfl,rfl,fun _ _ e=>by cases e⟩
 | deferred d=>
  cases d with
  | none=>cases h;exact⟨rfl,rfl,fun _ _ e=>by cases e⟩
  | some l=>
   simp only[Uy,GS]at h;obtain⟨d,_,rfl⟩:=h;exact⟨rfl,rfl,fun _ _ e=>by cases e⟩
 | map es c=>cases h;exact⟨rfl,rfl,fun _ _ e=>by cases e⟩
 | loop q=>
  simp only[Uy,GS]at h;obtain⟨d,_,rfl⟩:=h;exact⟨rfl,rfl,fun _ _ e=>by cases e⟩
end
def Vh (b:Nat):AW->Nat->Option Nat
 | [],_=>none
 | i::r,k=>bif Nat.beq b i then some k else Vh b r (k+1)
def Fw (N:Nat) (ids:AW):Rn:=fun b=>bif Nat.blt b N then some b else Vh b ids N
theorem QM {b:Nat}:∀{ids:AW} {k i:Nat},Vh b ids k=some i->k<=i/\i < k+ids.length/\ids[i - k]? = some b
 | [],k,i,h=>by cases h
 | a::r,k,i,h=>by
  unfold Vh at h;cases hb:Nat.beq b a
  ·simp only[hb,EB]at h;obtain⟨h1,h2,h3⟩:=QM h;refine⟨by omega,by simp only[bT];omega,?_⟩;rw[show i - k=(i - (k+1))+1 by omega,oA];exact h3
  ·simp only[hb,C8,C5]at h;subst h;refine⟨GO _,by simp,?_⟩;rw[me,DN hb];rfl
def DF (N:Nat) (ids:AW) (i:Nat):Option Nat:=if i < N then some i else ids[i - N]?
theorem Fi {N:Nat} {ids:AW} {b i:Nat} (h:Fw N ids b=some i):DF N ids i=some b:=by
 unfold Fw at h;unfold DF;cases hb:Nat.blt b N
 ·simp only[hb,EB]at h;obtain⟨h1,h2,h3⟩:=QM h;rw[JT (by omega)];exact h3
 ·simp only[hb,C8,C5]at h;subst h;rw[MB (show b < N from BE hb)]
def RB (ρ:Rn) (m:Tr AP):AW->Option (Tr AP)
 | []=>some .leaf
 | b::r=>match RB ρ m r with
  | some t=>match ρ b,m.get b with
   | some i,some o=>match Uy ρ o with
    | some o1=>some (t.put i (some o1))
    | none=>none
   | _,_=>none
  | none=>none
theorem B6 {ρ:Rn} {m:Tr AP}:∀{l:AW} {t:Tr AP},RB ρ m l=some t->∀i o1,t.get i=some o1->∃b o,ρ b=some i/\m.get b=some o/\Uy ρ o=some o1
 | [],t,h,i,o1,hg=>by cases h;cases hg
 | b::r,t,h,i,o1,hg=>by
  simp only[RB]at h;split at h
  ·rename_i t0 h0;split at h
   ·rename_i j o hj ho;split at h
    ·rename_i o2 h2;cases h
     rw[Tr.AU]at hg
     by_cases e:i=j
     ·subst e;rw[MB rfl]at hg;cases hg;exact⟨b,o,hj,ho,h2⟩
     ·rw[JT e]at hg;exact B6 h0 i o1 hg
    ·cases h
   ·cases h
  ·cases h
def Qv (ρ:Rn) (live:Option (AW)):Aj->Option Aj
 | ⟨fn,t,n,todo,ds,r,kd,rd⟩=>match P0 ρ todo,ca ρ ds,lT ρ rd with
  | some todo',some ds',some rd'=>some ⟨fn,match live with | some l=>Qd (Np ρ) t l | none=>t.Ym (Np ρ),n,todo',ds',r,kd,rd'⟩
  | _,_,_=>none
def aI (ρ:Rn):List Aj->Option (List Aj)
 | []=>some []
 | f::r=>match Qv ρ none f,aI ρ r with
  | some g,some l=>some (g::l)
  | _,_=>none
def wa (N:Nat) (Av ids:AW) (live:AW) (c:BT):Option BT:=
 match Qv (Fw N ids) (some live) c.fr,aI (Fw N ids) c.cs,RB (Fw N ids) c.H.m Av with
 | some fr,some cs,some m=>some ⟨fr,cs,⟨m,N+ids.length⟩⟩
 | _,_,_=>none
def A5 (X:Ctx) (N:Nat) (c:BT) (Φ:Bz):Prop:=∀(base:Env) (W0:World),(∀b T,base.jK b=some T->b < N)->ET X base W0->HJ X->∀(cs0:List Frame) (μ:Ae) (fr:Frame) (cs:List Frame) (W:World),JL X base W0 μ c fr cs W->∃c',Φ c'/\C4 X base W0 cs0 c' (lone fr (cs++cs0) W)
section
variable {X:Ctx} {N:Nat}
theorem Reach.Uf {c:BT} {Φ:Bz} (h:Reach X c Φ):A5 X N c Φ:=fun base W0 _=>h base W0
theorem A5.here {c:BT} {Φ:Bz} (h:Φ c):A5 X N c Φ:=(Reach.here h).Uf
theorem A5.bind {c:BT} {Φ Ψ:Bz} (h:A5 X N c Φ) (h':∀c',Φ c'->A5 X N c' Ψ):A5 X N c Ψ:=by
 intro base W0 hb hok hplan cs0 μ fr cs W hm;obtain⟨c1,p1,μ1,fr1,cs1,W1,s1,m1⟩:=h base W0 hb hok hplan cs0 μ fr cs W hm;obtain⟨c2,p2,μ2,fr2,cs2,W2,s2,m2⟩:=h' c1 p1 base W0 hb hok hplan cs0 μ1 fr1 cs1 W1 m1;exact⟨c2,p2,μ2,fr2,cs2,W2,s1.trans s2,m2⟩
theorem A5.mono {c:BT} {Φ Ψ:Bz} (h:A5 X N c Φ) (hi:∀c',Φ c'->Ψ c'):A5 X N c Ψ:=h.bind fun c' hc=> .here (hi c' hc)
theorem KK {ρ:Rn} {l m:List B9} (h:P0 ρ l=some m):∀ops p k,l≠ .Ee ops p::k:=by
 rintro ops p k rfl;simp[P0,kT]at h
theorem cy {ρ:Rn} {μ ν:Ae} {H H':AA} (hρ:∀b i T,ρ b=some i->μ b=some T->ν i=some T) {g:AW} {l l1:List Aj} {l':List Frame} (h:aI ρ l=some l1) (hr:Dv X μ H g l l'):Dv X ν H' [] l1 l':=by
 induction hr generalizing l1 with
 | nil=>cases h;exact .nil
 | cons hf _ ih=>
  simp only[aI]at h;split at h
  ·rename_i f1 m e1 e2;cases h
   refine .cons (g:=[]) (gs:=[]) ?_ (ih e2);cases hf with
   | plain fn t n tm todo todo' ds ds' r kd rd rd' ht hi hd hr=>
    simp only[Qv]at e1;split at e1
    ·rename_i a b c h1 h2 h3;cases e1
     exact .plain _ _ _ _ _ _ _ _ _ _ _ _ (Rx hρ ht) (I5 hρ h1 hi) (JG hρ h2 hd) (KX hρ h3 hr)
    ·cases e1
   | KA fn t n tm ops x o rest idx D G k k' ds ds' kd rd rd' ho hD hk hd hr=>
    simp only[Qv]at e1;split at e1
    ·rename_i a b c h1 h2 h3;exact absurd rfl (KK h1 _ _ _)
    ·cases e1
  ·cases h
theorem XJ {M:Nat} (hMN:M<=N) {Av ids live:AW} {c c':BT} {Φ:Bz} (hl:(X.laid.all fun p=>Nat.blt p.1 N)=true) (h:wa N Av ids live c=some c') (hr:A5 X M c' Φ):A5 X M c Φ:=by
 intro base W0 hb hok hplan cs0 μ fr cs W hm;suffices hs:∃μ',JL X base W0 μ' c' fr cs W by
  obtain⟨μ',hm'⟩:=hs;exact hr base W0 hb hok hplan cs0 μ' fr cs W hm'
 obtain⟨hH,hlaid,g,gs,hfr,hcs,hnd⟩:=hm;unfold wa at h;split at h
 ·rename_i fr1 cs1 m1 e1 e2 e3;cases h
  let ν:Ae:=fun i=>(DF N ids i).bind μ
  have hν:∀b i T,Fw N ids b=some i->μ b=some T->ν i=some T:=by
   intro b i T h1 h2;show(DF N ids i).bind μ=_;rw[Fi h1];exact h2
  have hν':∀b i T,Fw N ids b=some i->ν i=some T->μ b=some T:=by
   intro b i T h1 h2;have h2:(DF N ids i).bind μ=some T:=h2;rw[Fi h1]at h2;exact h2
  have hlow:∀i,i < N->ν i=μ i:=by
   intro i hi;show(DF N ids i).bind μ=_;unfold DF;rw[MB hi];rfl
  refine⟨ν,⟨?_,?_,?_,?_,?_,hH.size,hH.below,hH.out,hH.os,?_,?_,hH.grow⟩,?_,[],[],?_,cy hν e2 hcs,by simp⟩
  ·intro i o1 hi T hT;obtain⟨b,o,r1,r2,r3⟩:=B6 e3 i o1 hi;obtain⟨o',q1,q2⟩:=hH.obj b o r2 T (hν' _ _ _ r1 hT);exact⟨o',q1,Z9 hν r3 q2⟩
  ·intro i o1 hi hro T hT hv;obtain⟨b,o,r1,r2,r3⟩:=B6 e3 i o1 hi;exact hH.own b o r2 (by rw[<-(HN r3).1];exact hro) T (hν' _ _ _ r1 hT) (fun hw=>hv ((G3 r3 T).2 hw))
  ·intro i1 i2 o1 o2 h1 h2 T1 T2 t1 t2 v1 v2 hcc hrr;obtain⟨b1,p1,r1,r2,r3⟩:=B6 e3 i1 o1 h1;obtain⟨b2,p2,s1,s2,s3⟩:=B6 e3 i2 o2 h2;have:=hH.inj b1 b2 p1 p2 r2 s2 T1 T2 (hν' _ _ _ r1 t1) (hν' _ _ _ s1 t2) (fun hw=>v1 ((G3 r3 T1).2 hw)) (fun hw=>v2 ((G3 s3 T2).2 hw)) hcc (by rw[<-(HN r3).1,<-(HN s3).1];exact hrr);subst this;rw[r1]at s1;cases s1;rfl
  ·intro i hi;have hi:N+ids.length<=i:=hi;have hnone:DF N ids i=none:=by
    unfold DF;rw[JT (by omega),T6 (by omega)]
   constructor
   ·cases hg:(AA.mk m1 (N+ids.length)).get i with
    | none=>rfl
    | some o1=>
     obtain⟨b,o,r1,_⟩:=B6 e3 i o1 hg;rw[Fi r1]at hnone;cases hnone
   ·show(DF N ids i).bind μ=none;rw[hnone];rfl
  ·intro i T hT;have hT:(DF N ids i).bind μ=some T:=hT;cases hbk:DF N ids i with
   | none=>rw[hbk]at hT;cases hT
   | some b=>rw[hbk]at hT;exact hH.bound b T hT
  ·obtain⟨φ,q⟩:=hH.abs;refine⟨fun i=>match DF N ids i with | some b=>φ b | none=>fun _=>False,?_,?_⟩
   ·intro i a ro T hi hT;obtain⟨b,o,r1,r2,r3⟩:=B6 e3 i _ hi;obtain⟨this,hext⟩:=(HN r3).2.2 a ro rfl;subst this;simp only[Fi r1];obtain⟨w1,w2⟩:=q.rep b a ro T r2 (hν' _ _ _ r1 hT);exact⟨w1.closed _ hext,w2⟩
   ·intro i a ro T hi hT i2 o2 T2 hi2 hT2 hne;obtain⟨b,o,r1,r2,r3⟩:=B6 e3 i _ hi;obtain⟨this,hext⟩:=(HN r3).2.2 a ro rfl;subst this;obtain⟨b2,p2,s1,s2,s3⟩:=B6 e3 i2 _ hi2;simp only[Fi r1,Fi s1];obtain⟨u1,u2⟩:=q.DG b a ro T r2 (hν' _ _ _ r1 hT) b2 p2 T2 s2 (hν' _ _ _ s1 hT2) (by rintro rfl;rw[r1]at s1;cases s1;exact hne rfl);exact⟨fun hv2=>u1 (fun hw=>hv2 ((G3 s3 T2).2 hw)),fun ea=>u2 (by rw[<-(HN s3).2.1];exact ea)⟩
  ·intro b T hT;rw[hlow b (nI (hb b T hT) hMN)];exact hH.le b T hT
  ·intro gl hgl;obtain⟨T,h1,h2⟩:=hlaid gl hgl;have:gl < N:=by
    rw[AA9]at hgl;obtain⟨p,hp,hpe⟩:=hgl;have h3:=List.all_eq_true.1 hl p hp;rw[DN hpe];exact BE h3
   exact⟨T,by rw[hlow gl this];exact h1,h2⟩
  ·generalize c.fr=cf at e1 hfr;cases hfr with
   | plain fn t n tm todo todo' ds ds' r kd rd rd' ht hi hd hrr=>
    simp only[Qv]at e1;split at e1
    ·rename_i a b c h1 h2 h3;cases e1
     exact .plain _ _ _ _ _ _ _ _ _ _ _ _ (S6 hν ht live) (I5 hν h1 hi) (JG hν h2 hd) (KX hν h3 hrr)
    ·cases e1
   | drawn fn t n tm ops BJ idx D G k k' ds ds' kd rd rd' hD hk hd hrr=>
    simp only[Qv]at e1;split at e1
    ·rename_i a b c h1 h2 h3;exact absurd rfl (KK h1 _ _ _)
    ·cases e1
 ·cases h
theorem o7 {Av ids live:AW} {c c':BT} {Φ:Bz} (hl:(X.laid.all fun p=>Nat.blt p.1 N)=true) (_hN:N<=c.H.next) (_hids:(ids.all fun b=>Nat.blt b c.H.next)=true) (h:wa N Av ids live c=some c') (hr:A5 X N c' Φ):A5 X N c Φ:=XJ (GO _) hl h hr
end
structure Stop where
 fn:FuncId
 depth:Nat
 len:Nat
 N:Nat
 Xi:AW
 live:AW
def tc:List B9->Bool
 | .inLoop _::_=>true
 | .code (.loop _)::_=>true
 | _=>false
def Stop.here (S:Stop) (c:BT):Bool:=
 match c with
 | ⟨⟨fn,_,_,todo,_,r,_,_⟩,cs,_⟩=> !r&&tc todo&&Nat.beq fn S.fn&&Nat.beq cs.length S.depth&&Nat.beq todo.length S.len
def pn (t:Tr Value):AL:=
 Tr.rec (motive:=fun _=>AL) [] (fun _ v _ l r=>l++((match v with | some x=>[x] | none=>[])++r)) t
def aS:AP->AW
 | .cells cs _ _=>cs.flatMap (Au 4)
 | .loop q=>q.defers::(pn q.tmps).flatMap (Au 4)
 | .deferred (some l)=>l.flatMap fun d=>d.args.toList.flatMap (Au 4)
 | .map es _=>es.flatMap fun e=>Au 4 e.key++Au 4 e.val
 | _=>[]
def fL:B9->AW
 | .inRangeFunc l=>[l]
 | .endRangeFunc l=>[l]
 | _=>[]
def qW (d:Deferred):AW:=(match d.target with
 | .collected b=>[b]
 | .fn _ ys=>ys.toList.flatMap (Au 4)
 | _=>[])++d.args.toList.flatMap (Au 4)
def sU (f:Aj):AW:=
 (match f.round with | some l=>[l] | none=>[])++f.defers.flatMap qW++f.todo.flatMap fL++(pn f.tmps).flatMap (Au 4)
def K5 (H:AA) (N:Nat):Nat->AW->AW->AW
 | 0,_,seen=>seen
 | f+1,todo,seen=>match todo with
  | []=>seen
  | b::r=>bif Nat.blt b N||seen.any (Nat.beq b)then K5 H N f r seen else
   match H.get b with
   | some o=>K5 H N f (r++aS o) (seen++[b])
   | none=>K5 H N f r seen
def Stop.ids (S:Stop) (c:BT):AW:=
 K5 c.H S.N 1000 ((S.live.flatMap fun i=>Au 4 (look c.fr.tmps i))++(match c.fr.round with | some l=>[l] | none=>[])++c.fr.defers.flatMap qW++c.fr.todo.flatMap fL++c.cs.flatMap sU++(S.Xi.flatMap fun b=>match c.H.get b with | some o=>aS o | none=>[])) []
def Stop.can (X:Ctx) (S:Stop) (c:BT):Option BT:=
 match FD X c with
 | some c1=>bif Nat.ble S.N c1.H.next&&(S.ids c1).all (fun b=>Nat.blt b c1.H.next)then wa S.N (S.Xi++S.ids c1) (S.ids c1) S.live c1 else none
 | none=>none
def xt (X:Ctx) (pf:Pf) (f:FuncId) (ids:AW) (S:Stop) (Q:Bm) (R:Bz) (n:Nat):Bz:=
 Nat.rec (motive:=fun _=>Bz) (fun _=>False) (fun _ ih c=>match FC X f c with
  | some (v,H)=>Q v ((ids++Au 4 v).map H.get)
  | none=>bif S.here c then(match S.can X c with
   | some c2=>R c2
   | none=>False)
   else HC X pf c ih) n
def AX (X:Ctx) (N:Nat) (f:FuncId) (Q:Ih) (c:BT):Prop:=A5 X N c fun c'=>∃v H,FC X f c'=some (v,H)/\Q v H
section
variable {X:Ctx}
theorem ZW.Uf {N:Nat} {f:FuncId} {Q:Ih} {c:BT} (h:ZW X f Q c):AX X N f Q c:=Reach.Uf h
theorem AX.mono {N:Nat} {f:FuncId} {Q Q':Ih} {c:BT} (h:AX X N f Q c) (hi:∀v H,Q v H->Q' v H):AX X N f Q' c:=
 A5.mono h fun _ ⟨v,H,a,b⟩=>⟨v,H,a,hi v H b⟩
theorem Y6 {pf:Pf} (hpf:HO X pf) {f:FuncId} {ids:AW} {S:Stop} (hl:(X.laid.all fun p=>Nat.blt p.1 S.N)=true) {Q:Bm} {R:Bz} {Q':Ih}
 (hQ:∀v H,Q v ((ids++Au 4 v).map H.get)->Q' v H) (hR:∀c,R c->AX X S.N f Q' c):∀(n:Nat) (c:BT),xt X pf f ids S Q R n c->AX X S.N f Q' c:=by
 intro n;induction n with
 | zero=>intro c h;cases h
 | succ n ih=>
  intro c h;have h:(match FC X f c with
   | some (v,H)=>Q v ((ids++Au 4 v).map H.get)
   | none=>bif S.here c then(match S.can X c with
    | some c2=>R c2
    | none=>False)
    else HC X pf c (xt X pf f ids S Q R n)):=h
  split at h
  ·rename_i v H e;exact A5.here ⟨v,H,e,hQ v H h⟩
  ·cases hs:S.here c
   ·simp only[hs,EB]at h;exact A5.bind (Reach.Uf (KD hpf h)) fun c' hc=>ih c' hc
   ·simp only[hs,C8]at h;split at h
    ·rename_i c2 hc;unfold Stop.can at hc;split at hc
     ·rename_i c1 h1;cases hb:(Nat.ble S.N c1.H.next&&(S.ids c1).all (fun b=>Nat.blt b c1.H.next))
      ·simp only[hb,EB]at hc;cases hc
      ·simp only[hb,C8]at hc;simp only[Dg]at hb;have hr:=o7 (X:=X) hl (BE hb.1) hb.2 hc (hR c2 h);exact A5.bind (Reach.Uf ((R6.step h1).reach (Φ:=fun c'=>c'=c1) rfl)) fun c' e=>e ▸ hr
     ·cases hc
    ·cases h
def Ak (X:Ctx) (N:Nat) (D:Nat->Prop) (f:FuncId) (Q:Ih) (c:BT):Prop:=
 ∀(base:Env) (W0:World),(∀b T,base.jK b=some T->b < N)->(∀b,D b->∃T,base.jK b=some T)->ET X base W0->HJ X->∀(cs0:List Frame) (μ:Ae) (fr:Frame) (cs:List Frame) (W:World),JL X base W0 μ c fr cs W->
  ∃c' v H v2 H2,FC X f c'=some (v,H)/\Q v2 H2/\∃μ1 fr1 cs1 W1,Steps X.P (lone fr (cs++cs0) W) (lone fr1 (cs1++cs0) W1)/\JL X base W0 μ1 c' fr1 cs1 W1/\∀v',AH μ1 v v'->AJ base W0 μ1 H W1->∃μ2,μ1.le μ2/\AJ base W0 μ2 H2 W1/\AH μ2 v2 v'
theorem AX.Fh {N:Nat} {D:Nat->Prop} {f:FuncId} {Q:Ih} {c:BT} (h:AX X N f Q c):Ak X N D f Q c:=by
 intro base W0 hb _ hok hplan cs0 μ fr cs W hm;obtain⟨c',⟨v,H,h1,h2⟩,μ1,fr1,cs1,W1,s1,m1⟩:=h base W0 hb hok hplan cs0 μ fr cs W hm;exact⟨c',v,H,v,H,h1,h2,μ1,fr1,cs1,W1,s1,m1,fun _ g h=>⟨μ1,Ae.le_refl _,h,g⟩⟩
theorem Ak.mono {N:Nat} {D:Nat->Prop} {f:FuncId} {Q Q':Ih} {c:BT} (h:Ak X N D f Q c) (hi:∀v H,Q v H->Q' v H):Ak X N D f Q' c:=by
 intro base W0 hb hD hok hplan cs0 μ fr cs W hm;obtain⟨c',v,H,v2,H2,h1,h2,h3⟩:=h base W0 hb hD hok hplan cs0 μ fr cs W hm;exact⟨c',v,H,v2,H2,h1,hi v2 H2 h2,h3⟩
theorem Ak.sub {N:Nat} {D D':Nat->Prop} {f:FuncId} {Q:Ih} {c:BT} (h:Ak X N D f Q c) (hs:∀b,D b->D' b):Ak X N D' f Q c:=
 fun base W0 hb hD=>h base W0 hb fun b hb'=>hD b (hs b hb')
end
def Km:AP->AP
 | .cells cs e _=> .cells cs e true
 | .vec k l _=> .vec k l true
 | .abs a _=> .abs a true
 | o=>o
theorem W8 {μ:Ae} {T:Bc} {o:AP} {o':Obj} (h:CZ μ T o o'):CZ μ T (Km o) o':=by
 cases h with
 | cells cs e ro c t lo hi he hc hr hf=>exact .cells T cs e true c t lo hi he hc hr (fun e=>by cases e)
 | loop l a R ht hd=>exact .loop T l a R ht hd
 | EW=>exact .EW T
 | deferred l l' h=>exact .deferred T l l' h
 | Ca s p hd=>exact .Ca T s p hd
 | map es es' clock h=>exact .map T es es' clock h
 | vec k l ro o h=>
  refine .vec T k l true o' ?_;cases h with
  | cells cs e ro c t lo hi he hc hr hf=>exact .cells T _ _ true c t lo hi he hc hr (fun e=>by cases e)
 | Du k ro o he hr hk=>exact .Du T k true o' he hr hk
 | abs a ro o=>exact .abs T a true o'
theorem Sg {o:AP} {T:Bc}:(Km o).void T ↔ o.void T:=by
 cases o with
 | abs a ro=>cases a<;>exact AAZ
 | _=>exact AAZ
theorem JI {ρ:Ren} {o o1:AP} (h:BV ρ o=some o1∨(o.ro=true/\BV ρ o=some (Km o1))) (T:Bc):o1.void T ↔ o.void T:=by
 rcases h with h | ⟨_,h⟩
 ·exact CD h T
 ·exact Sg.symm.trans (CD h T)
theorem T7 {ρ:Ren} {o o1:AP} (h:BV ρ o=some o1∨(o.ro=true/\BV ρ o=some (Km o1))) (h2:o.ro=false):o1.ro=false:=by
 rcases h with h | ⟨h,_⟩
 ·rw[(EO h).1];exact h2
 ·rw[h2]at h;cases h
theorem Gx {ρ:Ren} {a:Ct} {ro:Bool} {o1:AP} (h:BV ρ (.abs a ro)=some o1):o1= .abs a ro/\a.ext=[]:=by
 simp only[BV]at h;cases hx:a.HT
 ·simp[hx]at h
 ·simp only[hx,C8,C5]at h;exact⟨h.symm,Ct.RD hx⟩
theorem WC {ρ:Ren} {a:Ct} {ro:Bool} {o1:AP} (h:BV ρ (.abs a ro)=some o1∨((AP.abs a ro).ro=true/\BV ρ (.abs a ro)=some (Km o1))):(∃ro1,o1= .abs a ro1)/\a.ext=[]:=by
 rcases h with h | ⟨_,h⟩
 ·obtain⟨rfl,hx⟩:=Gx h;exact⟨⟨ro,rfl⟩,hx⟩
 ·obtain⟨h,hx⟩:=Gx h;cases o1<;>simp only[Km,reduceCtorEq]at h
  cases h
  exact⟨⟨_,rfl⟩,hx⟩
theorem YN {ρ:Ren} {o o1:AP} (h:BV ρ o=some o1∨(o.ro=true/\BV ρ o=some (Km o1))):o1.isAbs=o.isAbs:=by
 rcases h with h | ⟨_,h⟩
 ·exact(EO h).2.1
 ·have:=(EO h).2.1;rw[<-this];cases o1<;>rfl
open Classical in
theorem vr {X:Ctx} {base:Env} {W0:World} {μ:Ae} {H:AA} {W:World}
 (hok:∀b W0,Eb X b W0->ET X b W0) (hplan:HJ X) (hW:Eb X base W0) (hH:AJ base W0 μ H W) (hlaid:Bj X μ)
 {f:FuncId} {n:Nat} {code:Code} (he:entry X.P f=some (n,code)) {Hc H':AA} {argsc args:AL} {args':BR} {ρ:Ren} {v:Value}
 (hn:argsc.length<=n) (hargs:DB (Dr ρ) argsc=some args) (ha:Am μ args args'.toList)
 (hlt:∀b i,ρ b=some i->b < Hc.next) (hdom:∀b i,ρ b=some i->∃T,μ i=some T) (hinj0:∀b1 b2 i,ρ b1=some i->ρ b2=some i->b1=b2) (hnext:H.next<=H'.next)
 (hlr:∀g,X.laid.any (fun p=>Nat.beq g p.1)=true->ρ g=some g)
 (hobj:∀b o,Hc.get b=some o->∃i o1,ρ b=some i/\H.get i=some o1/\(BV ρ o=some o1∨(o.ro=true/\BV ρ o=some (Km o1))))
 (k1:∀i,i < H.next->(∀b o,Hc.get b=some o->o.ro=false->ρ b≠some i)->H'.get i=H.get i)
 (k3:∀i,H'.next<=i->H'.get i=none)
 (hrun:Ak X Hc.next (fun b=>∃i,ρ b=some i) f (fun vc Hf=>my Hc H H' ρ v vc Hf) (Em f (CM 0 argsc .leaf) n code Hc)):
 Calls X.P f args' W fun e W'=>∃v' μ',e= .returned v'/\AJ base W0 μ' H' W'/\AH μ' v v'/\Ap μ H μ' H':=by
 obtain⟨φ,q⟩:=hH.abs;have hex:∀b o,Hc.get b=some o->o.ro=false->∃i o1,ρ b=some i/\H.get i=some o1/\BV ρ o=some o1:=by
  intro b o hb hr;obtain⟨i,o1,g1,g2,g3⟩:=hobj b o hb;rcases g3 with g3 | ⟨g3,_⟩
  ·exact⟨i,o1,g1,g2,g3⟩
  ·rw[hr]at g3;cases g3
 have hiN:∀b i,ρ b=some i->i < H.next:=fun b i hb=>let ⟨_,hT⟩:=hdom b i hb;hH.MO hT
 have hfree:∀b,Hc.next<=b->Hc.get b=none:=by
  intro b hb;cases hg:Hc.get b with
  | none=>rfl
  | some o=>obtain⟨i,_,h1,_⟩:=hobj b o hg;have:=hlt b i h1;omega
 let μc:Ae:=fun b=>(ρ b).bind μ
 have hμc:∀b i T,ρ b=some i->μ i=some T->μc b=some T:=fun b i T h1 h2=>by show(ρ b).bind μ=_;rw[h1];exact h2
 have hμc':∀b T,μc b=some T->∃i,ρ b=some i/\μ i=some T:=by
  intro b T h;have h:(ρ b).bind μ=some T:=h;cases hb:ρ b with
  | none=>rw[hb]at h;cases h
  | some i=>rw[hb]at h;exact⟨i,rfl,h⟩
 have hbw:∀b i T,ρ b=some i->μ i=some T->μc b=some T:=hμc
 let Own:Nat->Prop:=fun i=>(∃b o j T,Hc.get b=some o/\o.ro=false/\ρ b=some j/\μ j=some T/\¬o.void T/\i=T.c)∨(∃b a j,Hc.get b=some (.abs a false)/\ρ b=some j/\φ j i)
 let Ec:Env:={ base with K:=fun i=>i < W.heap.size/\¬Own i,jK:=μc }
 have hownK:∀i,Own i->¬base.K i:=by
  rintro i (⟨b,o,j,T,h1,h2,h3,h4,hv,rfl⟩ | ⟨b,a,j,h1,h2,h3⟩) hk
  ·obtain⟨i2,o1,g1,g2,g3⟩:=hex b o h1 h2;rw[h3]at g1;cases g1
   exact hH.own _ o1 g2 (by rw[(EO g3).1];exact h2) T h4 (fun hw=>hv ((CD g3 T).1 hw)) hk
  ·obtain⟨i2,o1,g1,g2,g3⟩:=hex b _ h1 rfl;rw[h2]at g1;cases g1
   obtain⟨rfl,_⟩:=Gx g3;obtain⟨T,hT⟩:=hdom _ _ h2;exact(q.rep _ a false T g2 hT).2 rfl i h3 hk
 have hHc:AJ Ec W μc Hc W:=by
  refine⟨?_,?_,?_,?_,?_,fun i hi=>hi.1,fun _ _=>rfl,rfl,rfl,?_,Ae.le_refl _,GO _⟩
  ·intro b o hb T hT;obtain⟨i,o1,g1,g2,g3⟩:=hobj b o hb;obtain⟨i2,e1,e2⟩:=hμc' b T hT;rw[g1]at e1;cases e1
   obtain⟨o',r1,r2⟩:=hH.obj _ o1 g2 T e2;rcases g3 with g3 | ⟨_,g3⟩
   ·exact⟨o',r1,R1 hbw g3 r2⟩
   ·exact⟨o',r1,R1 hbw g3 (W8 r2)⟩
  ·intro b o hb hr T hT hv hk;obtain⟨i2,e1,e2⟩:=hμc' b T hT;exact hk.2 (.inl ⟨b,o,i2,T,hb,hr,e1,e2,hv,rfl⟩)
  ·intro b1 b2 o1 o2 h1 h2 T1 T2 m1 m2 v1 v2 hc hrr;obtain⟨i1,e1,e2⟩:=hμc' b1 T1 m1;obtain⟨i2,e3,e4⟩:=hμc' b2 T2 m2;obtain⟨j1,p1,g1,g2,w1⟩:=hobj b1 o1 h1;obtain⟨j2,p2,g3,g4,w2⟩:=hobj b2 o2 h2;rw[e1]at g1;cases g1
   rw[e3]at g3;cases g3
   have:=hH.inj _ _ _ _ g2 g4 T1 T2 e2 e4 (fun hw=>v1 ((JI w1 T1).1 hw)) (fun hw=>v2 ((JI w2 T2).1 hw)) hc (hrr.imp (T7 w1) (T7 w2));subst this;exact hinj0 b1 b2 _ e1 e3
  ·intro b hb;refine⟨hfree b hb,?_⟩;cases hm:μc b with
   | none=>rfl
   | some T=>obtain⟨i,e1,_⟩:=hμc' b T hm;have:=hlt _ _ e1;omega
  ·intro b T hT;obtain⟨i,_,e2⟩:=hμc' b T hT;exact hH.bound i T e2
  ·refine⟨fun b=>match ρ b with | some j=>φ j | none=>fun _=>False,?_,?_⟩
   ·intro b a ro T hb hT;obtain⟨i,o1,g1,g2,g3⟩:=hobj b _ hb;obtain⟨i2,e1,e2⟩:=hμc' b T hT;rw[g1]at e1;cases e1
    obtain⟨⟨ro1,ho1⟩,hext⟩:=WC g3;subst ho1;obtain⟨r1,_⟩:=q.rep _ a ro1 T g2 e2;simp only[g1];refine⟨r1.closed _ hext,fun hro i hi hk=>hk.2 (.inr ⟨b,a,_,by rw[<-hro];exact hb,g1,hi⟩)⟩
   ·intro b a ro T hb hT b2 o2 T2 hb2 hT2 hne;obtain⟨i,o1,g1,g2,g3⟩:=hobj b _ hb;obtain⟨i2,e1,e2⟩:=hμc' b T hT;rw[g1]at e1;cases e1
    obtain⟨⟨ro1,ho1⟩,hext⟩:=WC g3;subst ho1;obtain⟨j,p1,g4,g5,g6⟩:=hobj b2 _ hb2;obtain⟨j2,e3,e4⟩:=hμc' b2 T2 hT2;rw[g4]at e3;cases e3
    have hne2:j≠i:=by
     rintro rfl;exact hne (hinj0 b2 b _ g4 g1)
    simp only[g1,g4];obtain⟨r1,r2⟩:=q.DG _ a ro1 T g2 e2 _ p1 T2 g5 e4 hne2;exact⟨fun hv2=>r1 (fun hw=>hv2 ((JI g6 T2).1 hw)),fun ea=>r2 (by rw[YN g6];exact ea)⟩
 have hlc:Bj X μc:=by
  intro g hg;obtain⟨T,h1,h2⟩:=hlaid g hg;exact⟨T,hμc g g T (hlr g hg) h1,h2⟩
 have hWc:Eb X Ec W:=by
  refine⟨hW.1,fun p hp=>?_⟩;obtain⟨h1,a,t,fz,h3,h4⟩:=hW.2 p hp;exact⟨⟨hH.size _ h1,fun ho=>hownK _ ho h1⟩,a,t,fz,by rw[hH.below _ h1];exact h3,h4⟩
 have hac:Am μc argsc args'.toList:=GF (PW hbw 6) _ _ _ hargs ha;intro cs;obtain⟨c',vc0,Hf0,vc,Hf,hd,⟨ρ',hinj,hold,hnew,k2,hv⟩,μ0,fr1,cs1,W1,s1,m1,hshut⟩:=hrun Ec W (fun b T hT=>by obtain⟨i,h1,_⟩:=hμc' b T hT;exact hlt _ _ h1) (fun b ⟨i,hi⟩=>by obtain⟨T,hT⟩:=hdom b i hi;exact⟨T,hμc b i T hi hT⟩) (hok Ec W hWc) hplan cs μc _ [] W (Kp hHc hlc he hac hn);obtain⟨rfl,hf,v',h1,h2o,h3o⟩:=KR m1 hd;obtain⟨μ1,_,h2,h3⟩:=hshut _ h3o h2o;have hs':Steps X.P (lone (Frame.enter X.P f args' .normal) cs W) (lone fr1 cs W1):=by simpa using s1
 refine⟨.returned v',W1,fr1,?_,hs',hf,h1⟩;have hle1:μc.le μ1:=h2.le;let μ':Ae:=fun i=>if i < H.next then μ i else if hx:∃b,ρ' b=some i/\Hc.next<=b then μ1 hx.choose else none
 have hμold:∀i,i < H.next->μ' i=μ i:=fun i hi=>by show(if _ then _ else _)=_;rw[MB hi]
 have hμnew:∀b i,ρ' b=some i->Hc.next<=b->μ' i=μ1 b:=by
  intro b i hb hge;have hi:=hnew b i hb hge;show(if i < H.next then μ i else if hx:∃b,ρ' b=some i/\Hc.next<=b then μ1 hx.choose else none)=_;rw[JT (by omega)];have hx:∃b,ρ' b=some i/\Hc.next<=b:=⟨b,hb,hge⟩
  rw[dif_pos hx,hinj _ b i hx.choose_spec.1 hb]
 have hμno:∀i,H.next<=i->(¬∃b,ρ' b=some i/\Hc.next<=b)->μ' i=none:=by
  intro i hi hx;show(if i < H.next then μ i else if hx:∃b,ρ' b=some i/\Hc.next<=b then μ1 hx.choose else none)=_;rw[JT (by omega),dif_neg hx]
 have hle:μ.le μ':=fun i T hT=>by rw[hμold i (hH.MO hT)];exact hT
 have hfw:∀b i T,ρ' b=some i->μ1 b=some T->μ' i=some T:=by
  intro b i T hb hT;rcases U1 b Hc.next with hlt' | hge
  ·rw[hold b hlt']at hb;obtain⟨T0,hT0⟩:=hdom b i hb;have:=hle1 b T0 (hμc b i T0 hb hT0);rw[hT]at this;cases this
   exact hle i T hT0
  ·rw[hμnew b i hb hge];exact hT
 have hsrc:∀i o T,H'.get i=some o->μ' i=some T->(∃b o0,ρ' b=some i/\Hf.get b=some o0/\BV ρ' o0=some o/\o0.ro=false/\μ1 b=some T)∨
  (i < H.next/\H.get i=some o/\μ i=some T/\∀b o,Hc.get b=some o->o.ro=false->ρ b≠some i):=by
  intro i o T hi hT
  by_cases hc:H.next<=i∨∃b o0,Hc.get b=some o0/\o0.ro=false/\ρ b=some i
  ·obtain⟨b,o0,g1,g2,g3,g4⟩:=k2 i o hi hc;refine .inl ⟨b,o0,g1,g2,g3,g4,?_⟩;rcases U1 b Hc.next with hlt' | hge
   ·have g1':=g1;rw[hold b hlt']at g1';have hiN':=hiN b i g1';rw[hμold i hiN']at hT;exact hle1 b T (hμc b i T g1' hT)
   ·rw[<-hμnew b i g1 hge];exact hT
  ·have hi1:i < H.next:=by
    rcases U1 i H.next with hh | hh
    ·exact hh
    ·exact absurd (.inl hh) hc
   have hnb:∀b o,Hc.get b=some o->o.ro=false->ρ b≠some i:=fun b o g1 g2 g3=>hc (.inr ⟨b,o,g1,g2,g3⟩)
   rw[k1 i hi1 hnb]at hi;rw[hμold i hi1]at hT;exact .inr ⟨hi1,hi,hT,hnb⟩
 have hkept:∀i o T,i < H.next->H.get i=some o->μ i=some T->¬o.void T->(∀b o,Hc.get b=some o->o.ro=false->ρ b≠some i)->Ec.K T.c:=by
  intro i o T hi ho hT hvo hnb;refine⟨hH.bound i T hT,?_⟩;rintro(⟨b,o2,j,T2,g1,g2,g3,g4,gv,g5⟩ | ⟨b,a,j,g1,g2,g3⟩)
  ·obtain⟨j2,p,e1,e2,e3⟩:=hobj b o2 g1;rw[g3]at e1;cases e1
   have:=hH.inj i j _ _ ho e2 T T2 hT g4 hvo (fun hw=>gv ((JI e3 T2).1 hw)) g5 (.inr (T7 e3 g2));subst this;exact hnb b o2 g1 g2 g3
  ·obtain⟨j2,p,e1,e2,e3⟩:=hex b _ g1 rfl;rw[g2]at e1;cases e1
   obtain⟨rfl,_⟩:=Gx e3;obtain⟨T2,hT2⟩:=hdom _ _ g2;have hne:i≠j:=by rintro rfl;exact hnb b _ g1 rfl g2
   exact(q.DG j a false T2 e2 hT2 i o T ho hT hne).1 hvo g3
 have hnotK:∀b o T,Hf.get b=some o->o.ro=false->μ1 b=some T->¬o.void T->¬base.K T.c:=by
  intro b o T g1 g2 g3 gv hk;have:=h2.own b o g1 g2 T g3 gv;refine this ⟨hH.size _ hk,fun ho=>hownK _ ho hk⟩
 obtain⟨φ1,q1⟩:=h2.abs;have hphiK:∀i a ro T,H.get i=some (.abs a ro)->μ i=some T->(∀b o,Hc.get b=some o->o.ro=false->ρ b≠some i)->∀j,φ i j->Ec.K j:=by
  intro i a ro T ho hT hnb j hj;have hr:=(q.rep i a ro T ho hT).1;refine⟨(GB.JA _ _ _ _ hr).2 j hj,?_⟩;rintro(⟨b,o2,j2,T2,g1,g2,g3,g4,gv,rfl⟩ | ⟨b,a2,j2,g1,g2,g3⟩)
  ·obtain⟨j3,p,e1,e2,e3⟩:=hobj b o2 g1;rw[g3]at e1;cases e1
   have hne:j2≠i:=by rintro rfl;exact hnb b o2 g1 g2 g3
   exact(q.DG i a ro T ho hT j2 p T2 e2 g4 hne).1 (fun hw=>gv ((JI e3 T2).1 hw)) hj
  ·obtain⟨j3,p,e1,e2,e3⟩:=hex b _ g1 rfl;rw[g2]at e1;cases e1
   obtain⟨rfl,_⟩:=Gx e3;obtain⟨T2,hT2⟩:=hdom _ _ g2;have hne:j2≠i:=by rintro rfl;exact hnb b _ g1 rfl g2
   exact(q.DG i a ro T ho hT j2 _ T2 e2 hT2 hne).2 rfl j hj g3
 refine⟨v',μ',rfl,⟨?_,?_,?_,?_,?_,?_,?_,?_,?_,?_,?_,?_⟩,Pd hfw 6 _ _ _ hv h3,hle,hnext,?_⟩
 ·intro i o hi T hT;rcases hsrc i o T hi hT with⟨b,o0,g1,g2,g3,g4,g5⟩ | ⟨g1,g2,g3,g4⟩
  ·obtain⟨o',r1,r2⟩:=h2.obj b o0 g2 T g5;exact⟨o',r1,VS hfw g3 r2⟩
  ·obtain⟨o',r1,r2⟩:=CZ.Av (W':=W1) (hH.obj i o g2 T g3) h2.grow (fun hv=>h2.below _ (hkept i o T g1 g2 g3 hv g4));exact⟨o',r1,r2.mono hle⟩
 ·intro i o hi hr T hT hv;rcases hsrc i o T hi hT with⟨b,o0,g1,g2,g3,g4,g5⟩ | ⟨g1,g2,g3,g4⟩
  ·exact hnotK b o0 T g2 g4 g5 (fun hw=>hv ((CD g3 T).2 hw))
  ·exact hH.own i o g2 hr T g3 hv
 ·intro i1 i2 o1 o2 e1 e2 T1 T2 m1 m2 v1 v2 hc hrr;rcases hsrc i1 o1 T1 e1 m1 with⟨b1,p1,g1,g2,g3,g4,g5⟩ | ⟨g1,g2,g3,g4⟩<;>rcases hsrc i2 o2 T2 e2 m2 with⟨b2,p2,f1,f2,f3,f4,f5⟩ | ⟨f1,f2,f3,f4⟩
  ·have:=h2.inj b1 b2 _ _ g2 f2 T1 T2 g5 f5 (fun hw=>v1 ((CD g3 T1).2 hw)) (fun hw=>v2 ((CD f3 T2).2 hw)) hc (.inl g4);subst this;rw[g1]at f1;cases f1;rfl
  ·exact absurd (hc ▸ hkept i2 o2 T2 f1 f2 f3 v2 f4) (h2.own b1 p1 g2 g4 T1 g5 (fun hw=>v1 ((CD g3 T1).2 hw)))
  ·exact absurd (hc ▸ hkept i1 o1 T1 g1 g2 g3 v1 g4) (h2.own b2 p2 f2 f4 T2 f5 (fun hw=>v2 ((CD f3 T2).2 hw)))
  ·exact hH.inj i1 i2 _ _ g2 f2 T1 T2 g3 f3 v1 v2 hc hrr
 ·intro i hi;refine⟨k3 i hi,hμno i (by omega) ?_⟩;rintro⟨b,g1,g2⟩;have:=(hnew b i g1 g2).2;omega
 ·intro i T hT;rcases U1 i H.next with hh | hh
  ·rw[hμold i hh]at hT;have:=hH.bound i T hT;have:=h2.grow;omega
  ·by_cases hx:∃b,ρ' b=some i/\Hc.next<=b
   ·obtain⟨b,g1,g2⟩:=hx;rw[hμnew b i g1 g2]at hT;exact h2.bound b T hT
   ·rw[hμno i hh hx]at hT;cases hT
 ·intro i hi;have:=hH.size i hi;have:=h2.grow;omega
 ·intro i hi;rw[h2.below i ⟨hH.size i hi,fun ho=>hownK i ho hi⟩];exact hH.below i hi
 ·rw[h2.out];exact hH.out
 ·rw[h2.os];exact hH.os
 ·let C:Nat->Nat->Prop:=fun b i=>ρ' b=some i/\(H.next<=i∨∃o1,Hc.get b=some o1/\o1.ro=false)
  let φ':Nat->Nat->Prop:=fun i j=>(∃b,C b i/\φ1 b j)∨((¬∃b,C b i)/\φ i j)
  have hCin:∀b i,C b i->φ' i=φ1 b:=by
   intro b i hb
   funext j
   refine propext ⟨?_,fun hj=> .inl ⟨b,hb,hj⟩⟩;rintro(⟨b2,g1,g2⟩ | ⟨g1,_⟩)
   ·rw[hinj b b2 i hb.1 g1.1];exact g2
   ·exact absurd ⟨b,hb⟩ g1
  have hCout:∀i,i < H.next->(∀b o,Hc.get b=some o->o.ro=false->ρ b≠some i)->φ' i=φ i:=by
   intro i hi hnb;have hno:¬∃b,C b i:=by
    rintro⟨b,g1,g2 | ⟨o1,g2,g3⟩⟩
    ·omega
    ·obtain⟨i2,_,e1,_⟩:=hobj b o1 g2;rw[hold b (hlt _ _ e1)]at g1;exact hnb b o1 g2 g3 g1
   funext j
   refine propext ⟨?_,fun hj=> .inr ⟨hno,hj⟩⟩;rintro(⟨b2,g1,g2⟩ | ⟨_,g2⟩)
   ·exact absurd ⟨b2,g1⟩ hno
   ·exact g2
  have hsrc2:∀i o T,H'.get i=some o->μ' i=some T->(∃b o0,C b i/\Hf.get b=some o0/\BV ρ' o0=some o/\o0.ro=false/\μ1 b=some T)∨
   (i < H.next/\H.get i=some o/\μ i=some T/\∀b o,Hc.get b=some o->o.ro=false->ρ b≠some i):=by
   intro i o T hi hT;rcases hsrc i o T hi hT with⟨b,o0,g1,g2,g3,g4,g5⟩ | h
   ·by_cases hc:H.next<=i∨∃b o0,Hc.get b=some o0/\o0.ro=false/\ρ b=some i
    ·refine .inl ⟨b,o0,⟨g1,?_⟩,g2,g3,g4,g5⟩;rcases hc with hc | ⟨b2,o2,e1,e2,e3⟩
     ·exact .inl hc
     ·have:b=b2:=hinj b b2 i g1 (by rw[hold b2 (hlt _ _ e3)];exact e3);subst this;exact .inr ⟨o2,e1,e2⟩
    ·have hi1:i < H.next:=by
      rcases U1 i H.next with hh | hh
      ·exact hh
      ·exact absurd (.inl hh) hc
     have hnb:∀b o,Hc.get b=some o->o.ro=false->ρ b≠some i:=fun b o g1 g2 g3=>hc (.inr ⟨b,o,g1,g2,g3⟩)
     rw[k1 i hi1 hnb]at hi;rw[hμold i hi1]at hT;exact .inr ⟨hi1,hi,hT,hnb⟩
   ·exact .inr h
  refine⟨φ',?_,?_⟩
  ·intro i a ro T hi hT;rcases hsrc2 i _ T hi hT with⟨b,o0,g1,g2,g3,g4,g5⟩ | ⟨g1,g2,g3,g4⟩
   ·obtain⟨e0,hext⟩:=(EO g3).2.2 a ro rfl;subst e0;obtain⟨r1,r2⟩:=q1.rep b a ro T g2 g5;rw[hCin b i g1];exact⟨r1.closed _ hext,fun hro j hj hk=>r2 hro j hj ⟨hH.size j hk,fun ho=>hownK j ho hk⟩⟩
   ·obtain⟨r1,r2⟩:=q.rep i a ro T g2 g3;rw[hCout i g1 g4];exact⟨(GB.loc _ _ _ _ _ h2.grow r1 (fun j hj=>h2.below j (hphiK i a ro T g2 g3 g4 j hj))).mono hle,r2⟩
  ·intro i a ro T hi hT i2 o2 T2 hi2 hT2 hne;rcases hsrc2 i _ T hi hT with⟨b,o0,g1,g2,g3,g4,g5⟩ | ⟨g1,g2,g3,g4⟩<;>rcases hsrc2 i2 _ T2 hi2 hT2 with⟨b2,p0,f1,f2,f3,f4,f5⟩ | ⟨f1,f2,f3,f4⟩
   ·obtain⟨e0,hext⟩:=(EO g3).2.2 a ro rfl;subst e0;rw[hCin b i g1,hCin b2 i2 f1];have hbn:b2≠b:=by
     rintro rfl;have:=g1.1;rw[f1.1]at this;cases this;exact hne rfl
    obtain⟨r1,r2⟩:=q1.DG b a ro T g2 g5 b2 p0 T2 f2 f5 hbn;exact⟨fun hv2=>r1 (fun hw=>hv2 ((CD f3 T2).2 hw)),fun ea=>r2 (by rw[<-(EO f3).2.1];exact ea)⟩
   ·obtain⟨e0,hext⟩:=(EO g3).2.2 a ro rfl;subst e0;rw[hCin b i g1,hCout i2 f1 f4];have Pu:=(q1.rep b a ro T g2 g5).2 g4;refine⟨fun hv2 hc=>Pu _ hc (hkept i2 o2 T2 f1 f2 f3 hv2 f4),fun ea j hj hj2=>?_⟩;obtain⟨a2,ro2,rfl⟩:=Fb ea;exact Pu _ hj (hphiK i2 a2 ro2 T2 f2 f3 f4 j hj2)
   ·rw[hCout i g1 g4,hCin b2 i2 f1];refine⟨fun hv2 hc=>h2.own b2 p0 f2 f4 T2 f5 (fun hw=>hv2 ((CD f3 T2).2 hw)) (hphiK i a ro T g2 g3 g4 _ hc),fun ea j hj hj2=>?_⟩;have ea0:p0.isAbs=true:=by rw[<-(EO f3).2.1];exact ea
    obtain⟨a2,ro2,rfl⟩:=Fb ea0;exact(q1.rep b2 a2 ro2 T2 f2 f5).2 f4 j hj2 (hphiK i a ro T g2 g3 g4 _ hj)
   ·rw[hCout i g1 g4,hCout i2 f1 f4];exact q.DG i a ro T g2 g3 i2 o2 T2 f2 f3 hne
 ·exact Ae.le_trans hH.le hle
 ·have:=hH.grow;have:=h2.grow;omega
 ·intro i hi hm;refine⟨by rw[hμold i hi];exact hm,k1 i hi ?_⟩;intro b o g1 g2 g3;obtain⟨T,hT⟩:=hdom b i g3;rw[hm]at hT;cases hT
def bQ (P:Program) (laid:Co):Ctx:=⟨P,laid,fun _=>none,MP P⟩
def CY (P:Program) (laid:Co) (f:FuncId) (F:DO):Prop:=
 (∃n c,entry P f=some (n,c))/\∀base W0 μ H W (args:AL) (args':BR) v H',Eb (bQ P laid) base W0->AJ base W0 μ H W->Bj (bQ P laid) μ->Am μ args args'.toList->F args H=some (v,H')->
  Calls P f args' W fun e W'=>∃v' μ',e= .returned v'/\AJ base W0 μ' H' W'/\AH μ' v v'/\Ap μ H μ' H'
def PG:List (FuncId × DO)->FuncId->Option DO
 | [],_=>none
 | p::r,f=>bif Nat.beq p.1 f then some p.2 else PG r f
def Bp (P:Program) (laid:Co) (fs:List (FuncId × DO)):Ctx:=⟨P,laid,PG fs,MP P⟩
theorem dv:∀{fs:List (FuncId × DO)} {f:FuncId} {F:DO},PG fs f=some F->(f,F)∈fs:=by
 intro fs;induction fs with
 | nil=>intro f F h;cases h
 | cons p r ih=>
  intro f F h;unfold PG at h;cases hb:Nat.beq p.1 f
  ·rw[hb]at h;exact oo _ (ih h)
  ·rw[hb]at h;cases h
   have:=DN hb;rw[<-this];simp
def CO (P:Program) (laid:Co) (fs:List (FuncId × DO)):Prop:=∀p∈fs,CY P laid p.1 p.2
theorem CO.nil (P:Program) (laid:Co):CO P laid []:=fun _ h=>by cases h
theorem CO.cons {P:Program} {laid:Co} {f:FuncId} {F:DO} {fs:List (FuncId × DO)} (h:CY P laid f F) (h':CO P laid fs):CO P laid ((f,F)::fs):=by
 intro p hp;rcases List.mem_cons.1 hp with rfl | hp
 ·exact h
 ·exact h' p hp
theorem CO.IN {P:Program} {laid:Co} {fs:List (FuncId × DO)} (h:CO P laid fs) (base:Env) (W0:World) (hW:Eb (Bp P laid fs) base W0):ET (Bp P laid fs) base W0:=by
 refine⟨hW,?_⟩;intro f F hf;have hp:=h _ (dv hf);exact⟨hp.1,fun μ H W args args' v H' hH hl ha hF=>hp.2 base W0 μ H W args args' v H' hW hH hl ha hF⟩
theorem Kw {P:Program} {laid:Co} {k:QG} (h:K0 P laid k):CY P laid k.f (N6 k):=by
 refine⟨h.1,?_⟩;intro base W0 μ H W args args' v H' hW hH hl ha hF;unfold N6 at hF;cases hb:KC (Jw 8) args k.args
 ·rw[hb]at hF;cases hF
 ·rw[hb]at hF;cases hF
  obtain rfl:=JS (WH 8) _ _ hb;exact h.2 base W0 μ H W args' hW hH ha
inductive AV where
 | flat (v:Value)
 | row (k:EK) (l:List (EK.C k))
def argsAt:Nat->List AV->AL
 | _,[]=>[]
 | n,.flat v::r=>v::argsAt n r
 | n,.row _ l::r=> .slice (some ⟨n,0,some 0⟩) l.length Aa::argsAt (n+1) r
inductive RV where
 | one (a:AV)
 | many (l:List AV)
inductive RT where
 | fail
 | ret (r:RV)
 | test (c:Bool) (a b:RT)
def RT.run:RT->Option RV
 | .fail=>none
 | .ret r=>some r
 | .test c a b=>bif c then a.run else b.run
def RT.Xl:RT->(RV->Prop)->Prop
 | .fail,_=>False
 | .ret r,K=>K r
 | .test c a b,K=>bif c then a.Xl K else b.Xl K
theorem RT.Hv {K:RV->Prop}:∀{t:RT},t.Xl K->∃r,t.run=some r/\K r
 | .fail,h=>by cases h
 | .ret r,h=>⟨r,rfl,h⟩
 | .test c a b,h=>by
  cases c
  ·exact RT.Hv (t:=b) h
  ·exact RT.Hv (t:=a) h
def RV.list:RV->List AV
 | .one a=>[a]
 | .many l=>l
def RV.val (n:Nat):RV->Value
 | .one a=>match argsAt n [a]with
  | [v]=>v
  | _=>Bv
 | .many l=> .tuple ⟨argsAt n l⟩
abbrev Row:=Σ k:EK,List (EK.C k)
def nodupB:AW->Bool
 | []=>true
 | b::r=> !(r.any (Nat.beq b))&&nodupB r
theorem J8 {ρ:Ren}:∀(n:Nat) (v:Value),Cu n v=true->B7 ρ n v=some v:=by
 intro n;induction n with
 | zero=>intro v h;cases h
 | succ n ih=>
  have hl:∀l:AL,l.all (Cu n)=true->DB (B7 ρ n) l=some l:=by
   intro l;induction l with
   | nil=>intro _;rfl
   | cons a l ihl=>
    intro h;simp only[lf,Dg]at h;simp only[DB,ih a h.1,ihl h.2]
  intro v h;cases v with
  | iface t v=>simp only[Cu]at h;simp only[B7,ih v h,dH]
  | agg cs=>simp only[Cu]at h;simp only[B7,hl _ h,dH]
  | tuple cs=>simp only[Cu]at h;simp only[B7,hl _ h,dH]
  | pointer a=>cases a with
   | none=>rfl
   | some a=>simp[Cu]at h
  | slice a l c=>cases a with
   | none=>rfl
   | some a=>simp[Cu]at h
  | map a=>cases a with
   | none=>rfl
   | some a=>simp[Cu]at h
  | _=>first | rfl | (simp[Cu]at h)
def posOf (b:Nat):AW->Option Nat
 | []=>none
 | a::r=>if b=a then some 0 else(posOf b r).map (·+1)
theorem NL {b:Nat}:∀{l:AW} {j:Nat},posOf b l=some j->l[j]? = some b
 | [],_,h=>by cases h
 | a::r,j,h=>by
  unfold posOf at h;split at h
  ·rename_i e;cases h;rw[e];rfl
  ·obtain⟨q,h1,rfl⟩:=Option.map_eq_some_iff.1 h;rw[oA];exact NL h1
theorem Kh {b:Nat}:∀{l:AW} {j:Nat},l.Nodup->l[j]? = some b->posOf b l=some j
 | [],_,_,h=>by cases h
 | a::r,0,_,h=>by
  simp only[tE,C5]at h;unfold posOf;rw[MB h.symm]
 | a::r,j+1,hn,h=>by
  simp only[oA]at h;have hn:=List.nodup_cons.1 hn;have hne:b≠a:=by rintro rfl;exact hn.1 (cA h)
  unfold posOf;rw[JT hne,Kh hn.2 h];rfl
theorem cv {l:AW} (hn:l.Nodup) {i j b:Nat} (h1:l[i]? = some b) (h2:l[j]? = some b):i=j:=by
 have e1:=Kh hn h1;rw[Kh hn h2]at e1;cases e1;rfl
structure Vm where
 v:Value
 Xi:LR
 news:BN
inductive GT where
 | fail
 | ret (x:Vm)
 | test (c:Bool) (a b:GT)
 | ask (p:Prop) (a:GT)
open Classical in
def GT.run:GT->Option Vm
 | .fail=>none
 | .ret x=>some x
 | .test c a b=>bif c then a.run else b.run
 | .ask p a=>if p then a.run else none
def GT.Xl:GT->(Vm->Prop)->Prop
 | .fail,_=>False
 | .ret x,K=>K x
 | .test c a b,K=>bif c then a.Xl K else b.Xl K
 | .ask p a,K=>p/\a.Xl K
theorem GT.Hv {K:Vm->Prop}:∀{t:GT},t.Xl K->∃x,t.run=some x/\K x
 | .fail,h=>by cases h
 | .ret x,h=>⟨x,rfl,h⟩
 | .test c a b,h=>by
  cases c
  ·exact GT.Hv (t:=b) h
  ·exact GT.Hv (t:=a) h
 | .ask p a,h=>by
  obtain⟨x,h1,h2⟩:=GT.Hv (t:=a) h.2;exact⟨x,by simp only[GT.run];rw[MB h.1];exact h1,h2⟩
def Mx (laid:Co) (N:Nat) (b:Nat):Option Nat:=bif Nat.blt b N&&laid.any (fun p=>Nat.beq b p.1)then some b else none
def GV (laid:Co) (N:Nat) (bs:AW):Ren:=fun b=>bif Nat.blt b N then Mx laid N b else bs[b - N]?
def Oa (laid:Co) (N:Nat) (bs:AW):Ren:=fun b=>bif Nat.blt b N then Mx laid N b else Vh b bs N
def WS (ρ:Ren) (H:AA):AW->Option (BN)
 | []=>some []
 | b::r=>match H.get b with
  | some o=>match BV ρ o,WS ρ H r with
   | some o1,some l=>some (o1::l)
   | _,_=>none
  | none=>none
def UG:AP->AW
 | .cells cs _ _=>cs.flatMap (Au 4)
 | .vec [.tok] l _=>List.flatMap (Au 4) l
 | .vec [.str,.tok] l _=>List.flatMap (Au 4) (Ag [.str,.tok] l)
 | _=>[]
def Cr (H:AA) (N:Nat):Nat->AW->AW->AW
 | 0,_,seen=>seen
 | f+1,todo,seen=>match todo with
  | []=>seen
  | b::r=>bif Nat.blt b N||seen.any (Nat.beq b)then Cr H N f r seen else
   match H.get b with
   | some o=>Cr H N f (UG o++r) (seen++[b])
   | none=>Cr H N f r seen
def F6 (muts:List Bool) (j:Nat):Bool:=muts.getD j false
def EH (muts:List Bool):Nat->BN->BN
 | _,[]=>[]
 | j,o::r=>(bif F6 muts j then o else Km o)::EH muts (j+1) r
def DH (H:AA):BN->AA
 | []=>H
 | o::r=>DH (H.alloc o) r
def Iq (muts:List Bool) (H:AA):Nat->AW->Bool
 | _,[]=>true
 | j,b::r=>(bif F6 muts j then(match H.get b with | some o=> !o.ro | none=>false)else true)&&Iq muts H (j+1) r
def Ov (ρ:Ren) (muts:List Bool) (H:AA):Nat->AW->LR->Option AA
 | _,[],_=>some H
 | j,b::r,os=>bif F6 muts j then
  match os with
  | some o::os=>match BV ρ o with
   | some o1=>bif o1.ro then none else Ov ρ muts (H.put b o1) (j+1) r os
   | none=>none
  | none::os=>Ov ρ muts (H.del b) (j+1) r os
  | []=>Ov ρ muts (H.del b) (j+1) r []
  else Ov ρ muts H (j+1) r os.tail
def oh (ρ:Ren) (H:AA):BN->Option AA
 | []=>some H
 | o::r=>match BV ρ o with
  | some o1=>bif o1.ro then none else oh ρ (H.alloc o1) r
  | none=>none
def HP (laid:Co) (N:Nat) (bs:AW) (nx k:Nat):Ren:=GV laid N (bs++(List.range k).map (nx+·))
def US (laid:Co) (N:Nat) (muts:List Bool) (bs:AW) (H:AA) (x:Vm):Option (Value × AA):=
 match Dr (HP laid N bs H.next x.news.length) x.v,Ov (HP laid N bs H.next x.news.length) muts H 0 bs x.Xi with
 | some v,some H1=>match oh (HP laid N bs H.next x.news.length) H1 x.news with
  | some H2=>some (v,H2)
  | none=>none
 | _,_=>none
def Ai (laid:Co) (N:Nat) (muts:List Bool) (G:AL->BN->GT):DO:=fun args H=>
 match DB (Dr (Oa laid N (Cr H N 200 (args.flatMap (Au 4)) []))) args,WS (Oa laid N (Cr H N 200 (args.flatMap (Au 4)) [])) H (Cr H N 200 (args.flatMap (Au 4)) [])with
 | some argsc,some objs=>bif Iq muts H 0 (Cr H N 200 (args.flatMap (Au 4)) [])then
  match (G argsc objs).run with
  | some x=>US laid N muts (Cr H N 200 (args.flatMap (Au 4)) []) H x
  | none=>none
  else none
 | _,_=>none
def Cs (laid:Co) (N:Nat) (muts:List Bool) (G:AL->BN->GT):HL:=fun args H K=>
 match DB (Dr (Oa laid N (Cr H N 200 (args.flatMap (Au 4)) []))) args,WS (Oa laid N (Cr H N 200 (args.flatMap (Au 4)) [])) H (Cr H N 200 (args.flatMap (Au 4)) [])with
 | some argsc,some objs=>bif Iq muts H 0 (Cr H N 200 (args.flatMap (Au 4)) [])then
  (G argsc objs).Xl fun x=>match US laid N muts (Cr H N 200 (args.flatMap (Au 4)) []) H x with
   | some (v,H')=>K v H'
   | none=>False
  else False
 | _,_=>False
theorem Gq {X:Ctx} {laid:Co} {f:FuncId} {N:Nat} {muts:List Bool} {G:AL->BN->GT} (hX:X.IN f=some (Ai laid N muts G)) {args:AL} {H:AA} {K:Ih} (h:Cs laid N muts G args H K):
 ∃v H',CP X f args .normal H=some (v,H')/\K v H':=by
 unfold Cs at h;split at h
 ·rename_i argsc objs h1 h2;cases hm:Iq muts H 0 (Cr H N 200 (args.flatMap (Au 4)) [])
  ·simp only[hm,EB]at h
  ·simp only[hm,C8]at h;obtain⟨x,hx,h3⟩:=GT.Hv h;split at h3
   ·rename_i v H' he;refine⟨v,H',?_,h3⟩;unfold CP;simp only[hX];unfold Ai;simp only[h1,h2,hm,C8,hx,he]
   ·cases h3
 ·cases h
def Db (laid:Co) (N m:Nat) (muts:List Bool) (x:Vm) (v:Value) (Hf:AA):Prop:=
 ∃ns:AW,ns.Nodup/\(∀b∈ns,N+m<=b)/\ns.length=x.news.length/\Dr (J1 laid N m ns) x.v=some v/\
  (∀(j b:Nat) (o:AP),ns[j]? = some b->x.news[j]? = some o->∃o1,BV (J1 laid N m ns) o=some o1/\Hf.get b=some o1)/\
  (∀(j:Nat) (o:AP),j < m->F6 muts j=true->x.Xi[j]? = some (some o)->∃o1,BV (J1 laid N m ns) o=some o1/\Hf.get (N+j)=some o1)
where
 J1 (laid:Co) (N m:Nat) (ns:AW):Ren:=fun b=>if b < N then Mx laid N b else if b < N+m then some b else ns[b - (N+m)]?
theorem HD {f g:Value->C1} (h:∀v w,f v=some w->g w=some v):∀(l m:AL),DB f l=some m->DB g m=some l
 | [],_,e=>by cases e;rfl
 | v::l,m,e=>by
  simp only[DB]at e;split at e
  ·rename_i w k e1 e2;cases e
   simp only[DB,h _ _ e1,HD h l k e2]
  ·cases e
theorem Ps {σ τ:Ren} (h:∀b c,σ b=some c->τ c=some b):∀(n:Nat) (v w:Value),B7 σ n v=some w->B7 τ n w=some v:=by
 intro n;induction n with
 | zero=>intro v w e;cases e
 | succ n ih=>
  intro v w e;cases v with
  | bool b=>cases e;rfl
  | int k m=>cases e;rfl
  | float k m=>cases e;rfl
  | string s=>cases e;rfl
  | pointer a=>
   cases a with
   | none=>cases e;rfl
   | some a=>
    simp only[B7,GS]at e;obtain⟨a1,h1,rfl⟩:=e;obtain⟨b,o,s,i,rfl,h2,rfl⟩:=Eu h1;simp only[B7,Je,h _ _ h2,dH]
  | slice a l c=>
   cases a with
   | none=>cases e;rfl
   | some a=>
    simp only[B7,GS]at e;obtain⟨a1,h1,rfl⟩:=e;obtain⟨b,o,s,i,rfl,h2,rfl⟩:=Eu h1;simp only[B7,Je,h _ _ h2,dH]
  | map a=>
   cases a with
   | none=>cases e;rfl
   | some a=>
    simp only[B7,GS]at e;obtain⟨i,h1,rfl⟩:=e;simp only[B7,h _ _ h1,dH]
  | nilFunc=>cases e;rfl
  | nilIface=>cases e;rfl
  | iface t v=>
   simp only[B7,GS]at e;obtain⟨w1,h1,rfl⟩:=e;simp only[B7,ih _ _ h1,dH]
  | agg cs=>
   simp only[B7,GS]at e;obtain⟨l,h1,rfl⟩:=e;simp only[B7,HD ih _ _ h1,dH]
  | tuple cs=>
   simp only[B7,GS]at e;obtain⟨l,h1,rfl⟩:=e;simp only[B7,HD ih _ _ h1,dH]
  | func f xs ys=>
   cases f with
   | func f=>
    simp only[B7]at e;split at e
    ·rename_i a b e1 e2;cases e
     simp only[B7,HD ih _ _ e1,HD ih _ _ e2]
    ·cases e
   | _=>simp[B7]at e
  | chan c=>
   cases c with
   | none=>simp[B7]at e
   | some k=>
    cases k with
    | zero=>cases e;rfl
    | succ k=>simp[B7]at e
  | _=>simp[B7]at e
theorem VO {f g:Value->C1} (h:∀v w,f v=some w->g w=some v):∀(l m:List (EK.C [.str,.tok])),IF f l=some m->IF g m=some l
 | [],_,e=>by cases e;rfl
 | x::l,m,e=>by
  simp only[IF]at e;split at e
  ·rename_i w k e1 e2;cases e
   simp only[IF,h _ _ e1,VO h l k e2]
  ·cases e
theorem VU {σ τ:Ren} (h:∀b c,σ b=some c->τ c=some b) {o o1:AP} (e:BV σ o=some o1):BV τ o1=some o:=by
 cases o with
 | cells cs k ro=>
  simp only[BV,GS]at e;obtain⟨l,h1,rfl⟩:=e;simp only[BV,HD (Ps h 6) _ _ h1,dH]
 | vec k l ro=>
  rcases Qu e with⟨l2,l1,e2,h1,rfl⟩ | ⟨hk,rfl⟩ | ⟨l2,l1,e2,h1,rfl⟩
  ·cases e2
   exact XH (HD (Ps h 6) _ _ h1)
  ·exact ID _ hk _ _
  ·cases e2
   exact TK (VO (Ps h 6) _ _ h1)
 | abs a ro=>
  simp only[BV]at e;cases hx:a.HT
  ·simp[hx]at e
  ·simp only[hx,C8,C5]at e;subst e;simp only[BV,hx,C8]
 | _=>simp[BV]at e
theorem GX {f g k:Value->C1} (h:∀v w,f v=some w->g w=k v):∀(l m:AL),DB f l=some m->DB g m=DB k l
 | [],_,e=>by cases e;rfl
 | v::l,m,e=>by
  simp only[DB]at e;split at e
  ·rename_i w q e1 e2;cases e
   simp only[DB,h _ _ e1,GX h l q e2]
  ·cases e
theorem Md {σ τ υ:Ren} (h:∀b c,σ b=some c->τ c=υ b):∀(n:Nat) (v w:Value),B7 σ n v=some w->B7 τ n w=B7 υ n v:=by
 intro n;induction n with
 | zero=>intro v w e;cases e
 | succ n ih=>
  intro v w e;cases v with
  | bool b=>cases e;rfl
  | int k m=>cases e;rfl
  | float k m=>cases e;rfl
  | string s=>cases e;rfl
  | pointer a=>
   cases a with
   | none=>cases e;rfl
   | some a=>
    simp only[B7,GS]at e;obtain⟨a1,h1,rfl⟩:=e;obtain⟨b,o,s,i,rfl,h2,rfl⟩:=Eu h1;simp only[B7,Je,h _ _ h2]
  | slice a l c=>
   cases a with
   | none=>cases e;rfl
   | some a=>
    simp only[B7,GS]at e;obtain⟨a1,h1,rfl⟩:=e;obtain⟨b,o,s,i,rfl,h2,rfl⟩:=Eu h1;simp only[B7,Je,h _ _ h2]
  | map a=>
   cases a with
   | none=>cases e;rfl
   | some a=>
    simp only[B7,GS]at e;obtain⟨i,h1,rfl⟩:=e;simp only[B7,h _ _ h1]
  | nilFunc=>cases e;rfl
  | nilIface=>cases e;rfl
  | iface t v=>
   simp only[B7,GS]at e;obtain⟨w1,h1,rfl⟩:=e;simp only[B7,ih _ _ h1]
  | agg cs=>
   simp only[B7,GS]at e;obtain⟨l,h1,rfl⟩:=e;simp only[B7,GX ih _ _ h1]
  | tuple cs=>
   simp only[B7,GS]at e;obtain⟨l,h1,rfl⟩:=e;simp only[B7,GX ih _ _ h1]
  | func f xs ys=>
   cases f with
   | func f=>
    simp only[B7]at e;split at e
    ·rename_i a b e1 e2;cases e
     simp only[B7,GX ih _ _ e1,GX ih _ _ e2]
    ·cases e
   | _=>simp[B7]at e
  | chan c=>
   cases c with
   | none=>simp[B7]at e
   | some k=>
    cases k with
    | zero=>cases e;rfl
    | succ k=>simp[B7]at e
  | _=>simp[B7]at e
theorem Sh {f g k:Value->C1} (h:∀v w,f v=some w->g w=k v):∀(l m:List (EK.C [.str,.tok])),IF f l=some m->IF g m=IF k l
 | [],_,e=>by cases e;rfl
 | x::l,m,e=>by
  simp only[IF]at e;split at e
  ·rename_i w q e1 e2;cases e
   simp only[IF,h _ _ e1,Sh h l q e2]
  ·cases e
theorem SU {σ τ υ:Ren} (h:∀b c,σ b=some c->τ c=υ b) {o o1:AP} (e:BV σ o=some o1):BV τ o1=BV υ o:=by
 cases o with
 | cells cs k ro=>
  simp only[BV,GS]at e;obtain⟨l,h1,rfl⟩:=e;simp only[BV,GX (Md h 6) _ _ h1]
 | vec k l ro=>
  rcases Qu e with⟨l2,l1,e2,h1,rfl⟩ | ⟨hk,rfl⟩ | ⟨l2,l1,e2,h1,rfl⟩
  ·cases e2
   show(DB (Dr τ) l1).map _=(DB (Dr υ) l2).map _;rw[GX (Md h 6) _ _ h1]
  ·rw[ID _ hk,ID _ hk]
  ·cases e2
   show(IF (Dr τ) l1).map _=(IF (Dr υ) l2).map _;rw[Sh (Md h 6) _ _ h1]
 | abs a ro=>
  simp only[BV]at e;cases hx:a.HT
  ·simp[hx]at e
  ·simp only[hx,C8,C5]at e;subst e;simp only[BV,hx,C8]
 | _=>simp[BV]at e
theorem N3 {ρ:Ren} {o o1:AP} (h:BV ρ o=some o1):BV ρ (Km o)=some (Km o1)/\(Km o).ro=true:=by
 cases o with
 | cells cs k ro=>
  simp only[BV,GS]at h;obtain⟨l,h1,rfl⟩:=h;exact⟨by simp only[Km,BV,h1,dH],rfl⟩
 | vec k l ro=>
  rcases Qu h with⟨l2,l1,e2,h1,rfl⟩ | ⟨hk,rfl⟩ | ⟨l2,l1,e2,h1,rfl⟩
  ·cases e2
   exact⟨XH h1,rfl⟩
  ·exact⟨ID _ hk _ _,rfl⟩
  ·cases e2
   exact⟨TK h1,rfl⟩
 | abs a ro=>
  simp only[BV]at h;cases hx:a.HT
  ·simp[hx]at h
  ·simp only[hx,C8,C5]at h;subst h;exact⟨by simp only[Km,BV,hx,C8],rfl⟩
 | _=>simp[BV]at h
section
variable {laid:Co} {N:Nat} {bs:AW}
theorem Q9 {b i:Nat} (h:Mx laid N b=some i):i=b/\b < N/\laid.any (fun p=>Nat.beq b p.1)=true:=by
 unfold Mx at h;cases hc:(Nat.blt b N&&laid.any (fun p=>Nat.beq b p.1))
 ·simp only[hc,EB]at h;cases h
 ·simp only[hc,C8,C5]at h;simp only[Dg]at hc;exact⟨h.symm,BE hc.1,hc.2⟩
theorem KB {b:Nat} (h:b < N):GV laid N bs b=Mx laid N b:=by
 unfold GV;rw[show Nat.blt b N=true from Ez h];rfl
theorem FX {b:Nat} (h:N<=b):GV laid N bs b=bs[b - N]?:=by
 unfold GV;cases hb:Nat.blt b N
 ·rfl
 ·have:b < N:=BE hb;omega
theorem YP {b c:Nat} (h:Oa laid N bs b=some c):GV laid N bs c=some b:=by
 unfold Oa at h;cases hb:Nat.blt b N
 ·simp only[hb,EB]at h;obtain⟨h1,h2,h3⟩:=QM h;rw[FX h1];exact h3
 ·simp only[hb,C8]at h;obtain⟨rfl,h2,_⟩:=Q9 h;rw[KB h2];exact h
end
theorem WG {ρ:Ren} {H:AA}:∀{bs:AW} {objs:BN},WS ρ H bs=some objs->objs.length=bs.length/\∀(j b:Nat),bs[j]? = some b->∃o o1,H.get b=some o/\BV ρ o=some o1/\objs[j]? = some o1
 | [],_,h=>by cases h;exact⟨rfl,fun j b hb=>by cases hb⟩
 | a::r,objs,h=>by
  simp only[WS]at h;split at h
  ·rename_i o ho;split at h
   ·rename_i o1 l h1 h2;cases h
    obtain⟨i1,i2⟩:=WG h2;refine⟨by simp[i1],fun j b hb=>?_⟩;cases j with
    | zero=>
     simp only[tE,C5]at hb;subst hb;exact⟨o,o1,ho,h1,rfl⟩
    | succ j=>exact i2 j b hb
   ·cases h
  ·cases h
theorem OU (muts:List Bool):∀(objs:BN) (j0 j:Nat),(EH muts j0 objs)[j]? = (objs[j]?).map fun o=>bif F6 muts (j0+j)then o else Km o
 | [],j0,j=>by simp[EH]
 | o::r,j0,0=>by simp[EH]
 | o::r,j0,j+1=>by
  simp only[EH,oA];rw[OU muts r (j0+1) j,show j0+1+j=j0+(j+1) by omega]
theorem NU (muts:List Bool):∀(objs:BN) (j0:Nat),(EH muts j0 objs).length=objs.length
 | [],_=>rfl
 | o::r,j0=>by simp[EH,NU muts r]
theorem LC:∀(l:BN) (H:AA),(DH H l).next=H.next+l.length
 | [],_=>rfl
 | o::r,H=>by
  simp only[DH];rw[LC r];show H.next+1+r.length=_;simp only[bT];omega
theorem Fc:∀(l:BN) (H:AA) (i:Nat),(DH H l).get i=if i < H.next then H.get i else match l[i - H.next]? with | some o=>some o | none=>H.get i
 | [],H,i=>by simp only[DH,List.getElem?_nil];split<;>rfl
 | o::r,H,i=>by
  simp only[DH];rw[Fc r];have hn:(H.alloc o).next=H.next+1:=rfl;rw[hn]
  by_cases h1:i < H.next
  ·rw[MB (by omega),MB h1,AA.AM,JT (by omega)]
  ·rw[JT h1]
   by_cases h2:i=H.next
   ·subst h2;rw[MB (by omega),AA.AM,MB rfl,me];rfl
   ·rw[JT (by omega),show i - H.next=(i - (H.next+1))+1 by omega,oA,AA.AM,JT h2]
theorem Ru {muts:List Bool} {H:AA}:∀{bs:AW} {j0:Nat},Iq muts H j0 bs=true->∀(j b:Nat),bs[j]? = some b->F6 muts (j0+j)=true->∃o,H.get b=some o/\o.ro=false
 | [],_,_,j,b,hb,_=>by cases hb
 | a::r,j0,h,j,b,hb,hm=>by
  simp only[Iq,Dg]at h;cases j with
  | zero=>
   simp only[tE,C5]at hb;subst hb;rw[AAN]at hm;rw[hm]at h;simp only[C8]at h;cases hg:H.get a with
   | none=>rw[hg]at h;cases h.1
   | some o=>rw[hg]at h;exact⟨o,rfl,by simpa using h.1⟩
  | succ j=>exact Ru h.2 j b hb (by rw[show j0+1+j=j0+(j+1) by omega];exact hm)
theorem Sx {ρ:Ren} {muts:List Bool}:∀{bs:AW} {H H1:AA} {j0:Nat} {os:LR},Ov ρ muts H j0 bs os=some H1->bs.Nodup->
 H1.next=H.next/\(∀i,i∉bs->H1.get i=H.get i)/\(∀(j b:Nat),bs[j]? = some b->F6 muts (j0+j)=false->H1.get b=H.get b)/\
 (∀(j b:Nat) (o1:AP),bs[j]? = some b->F6 muts (j0+j)=true->H1.get b=some o1->∃o,os[j]? = some (some o)/\BV ρ o=some o1/\o1.ro=false)
 | [],H,H1,j0,os,h,_=>by cases h;exact⟨rfl,fun _ _=>rfl,fun j b hb=>(by cases hb),fun j b o1 hb=>(by cases hb)⟩
 | a::r,H,H1,j0,os,h,hn=>by
  have hn:=List.nodup_cons.1 hn;have step:∀(H2:AA) (os2:LR) (hn2:H2.next=H.next) (hg2:∀i,i≠a->H2.get i=H.get i) (hos:∀j,os2[j]? = os[j+1]?),Ov ρ muts H2 (j0+1) r os2=some H1->(F6 muts j0=false->H2.get a=H.get a)->(∀o1,F6 muts j0=true->H2.get a=some o1->∃o,os[0]? = some (some o)/\BV ρ o=some o1/\o1.ro=false)->
   H1.next=H.next/\(∀i,i∉a::r->H1.get i=H.get i)/\(∀(j b:Nat),(a::r)[j]? = some b->F6 muts (j0+j)=false->H1.get b=H.get b)/\
   (∀(j b:Nat) (o1:AP),(a::r)[j]? = some b->F6 muts (j0+j)=true->H1.get b=some o1->∃o,os[j]? = some (some o)/\BV ρ o=some o1/\o1.ro=false):=by
   intro H2 os2 hn2 hg2 hos hb h0 h1;obtain⟨i1,i2,i3,i4⟩:=Sx hb hn.2;refine⟨i1.trans hn2,fun i hi=>?_,fun j b hj hm=>?_,fun j b o1 hj hm hg=>?_⟩
   ·rw[i2 i (fun h=>hi (oo _ h)),hg2 i (fun h=>hi (h ▸ nB))]
   ·cases j with
    | zero=>
     simp only[tE,C5]at hj;subst hj;rw[i2 a hn.1];exact h0 hm
    | succ j=>
     have hj:r[j]? = some b:=hj;rw[i3 j b hj (by rw[show j0+1+j=j0+(j+1) by omega];exact hm),hg2 b];rintro rfl;exact hn.1 (cA hj)
   ·cases j with
    | zero=>
     simp only[tE,C5]at hj;subst hj;rw[i2 a hn.1]at hg;exact h1 o1 hm hg
    | succ j=>
     have hj:r[j]? = some b:=hj;obtain⟨o,q1,q2⟩:=i4 j b o1 hj (by rw[show j0+1+j=j0+(j+1) by omega];exact hm) hg;rw[hos j]at q1;exact⟨o,q1,q2⟩
  unfold Ov at h;cases hm:F6 muts j0
  ·simp only[hm,EB]at h;exact step H os.tail rfl (fun _ _=>rfl) (fun j=>by cases os<;>simp) h (fun _=>rfl) (fun o1 hh=>by rw[hm]at hh;cases hh)
  ·simp only[hm,C8]at h;split at h
   ·rename_i o os2;split at h
    ·rename_i o1 ho1;cases hro:o1.ro
     ·simp only[hro,EB]at h;exact step (H.put a o1) os2 rfl (fun i hi=>by rw[AA.AU,JT hi]) (fun _=>rfl) h (fun hh=>by rw[hm]at hh;cases hh) (fun o2 _ hg=>by
       rw[AA.AU,MB rfl]at hg;cases hg;exact⟨o,rfl,ho1,hro⟩)
     ·simp only[hro,C8]at h;cases h
    ·cases h
   ·rename_i os2;exact step (H.del a) os2 rfl (fun i hi=>by rw[AA.BU,JT hi]) (fun _=>rfl) h (fun hh=>by rw[hm]at hh;cases hh) (fun o2 _ hg=>by rw[AA.BU,MB rfl]at hg;cases hg)
   ·exact step (H.del a) [] rfl (fun i hi=>by rw[AA.BU,JT hi]) (fun _=>rfl) h (fun hh=>by rw[hm]at hh;cases hh) (fun o2 _ hg=>by rw[AA.BU,MB rfl]at hg;cases hg)
theorem U2 {ρ:Ren}:∀{l:BN} {H H1:AA},oh ρ H l=some H1->H1.next=H.next+l.length/\(∀i,i < H.next->H1.get i=H.get i)/\(∀i o1,H.next<=i->i < H.next+l.length->H1.get i=some o1->∃o,l[i - H.next]? = some o/\BV ρ o=some o1/\o1.ro=false)/\(∀i,H.next+l.length<=i->H1.get i=H.get i)
 | [],H,H1,h=>by cases h;exact⟨rfl,fun _ _=>rfl,fun i o1 h1 h2=>by simp at h2;omega,fun _ _=>rfl⟩
 | o::r,H,H1,h=>by
  simp only[oh]at h;split at h
  ·rename_i o1 ho1;cases hro:o1.ro
   ·simp only[hro,EB]at h;obtain⟨i1,i2,i3,i4⟩:=U2 h;have hn:(H.alloc o1).next=H.next+1:=rfl;rw[hn]at i1 i2 i3 i4;simp only[bT];refine⟨by omega,fun i hi=>?_,fun i o2 h1 h2 hg=>?_,fun i hi=>?_⟩
    ·rw[i2 i (by omega),AA.AM,JT (by omega)]
    ·by_cases e:i=H.next
     ·subst e;rw[i2 _ (by omega),AA.AM,MB rfl]at hg;cases hg
      exact⟨o,by rw[me];rfl,ho1,hro⟩
     ·obtain⟨o3,q1,q2⟩:=i3 i o2 (by omega) (by omega) hg;exact⟨o3,by rw[show i - H.next=(i - (H.next+1))+1 by omega,oA];exact q1,q2⟩
    ·rw[i4 i (by omega),AA.AM,JT (by omega)]
   ·simp only[hro,C8]at h;cases h
  ·cases h
theorem fa {μ:Ae}:∀(n:Nat) (v v':Value),AH μ v v'->∀b∈Au n v,∃T,μ b=some T:=by
 intro n;induction n with
 | zero=>intro v v' _ b hb;cases hb
 | succ n ih=>
  intro v v' h b hb;have hl:∀(l l':AL),Am μ l l'->b∈l.flatMap (Au n)->∃T,μ b=some T:=by
   intro l l' hr hm;induction hr with
   | nil=>cases hm
   | cons h1 _ ihl=>
    rw[ABN,AAz]at hm;rcases hm with hm | hm
    ·exact ih _ _ h1 b hm
    ·exact ihl hm
  cases h with
  | Bv=>simp[Au,Bv]at hb
  | ptr c o T hm=>simp only[Au,Q4]at hb;subst hb;exact⟨T,hm⟩
  | HS c o j T hm=>simp only[Au,Q4]at hb;subst hb;exact⟨T,hm⟩
  | HY c o j T M hm=>simp only[Au,Q4]at hb;subst hb;exact⟨T,hm⟩
  | slice c o l k k' o' T hm _ _=>simp only[Au,Q4]at hb;subst hb;exact⟨T,hm⟩
  | Bk c j l k k' o' T hm _ _ _=>simp only[Au,Q4]at hb;subst hb;exact⟨T,hm⟩
  | DW c j k T _ hm _=>simp only[Au,Q4]at hb;subst hb;exact⟨T,hm⟩
  | Cl c j l k k' o' T M hm _ _ _ _=>simp only[Au,Q4]at hb;subst hb;exact⟨T,hm⟩
  | F9 c j k T _ hm _=>simp only[Au,Q4]at hb;subst hb;exact⟨T,hm⟩
  | map c T hm=>simp only[Au,Q4]at hb;subst hb;exact⟨T,hm⟩
  | iface t a a' ha=>exact ih _ _ ha b hb
  | agg xs xs' hx ex=>
   obtain⟨ys,he,hl2⟩:=AH.Ce.1 (.agg xs xs' hx ex);exact hl _ _ hl2 hb
  | tuple xs xs' hx ex=>
   obtain⟨ys,he,hl2⟩:=AH.CE.1 (.tuple xs xs' hx ex);exact hl _ _ hl2 hb
  | func fn fn' xs xs' ys ys' hf hx ex hy ey=>
   obtain⟨fn2,xs2,ys2,he,hf2,hx2,hy2⟩:=AH.CL.1 (.func fn fn' xs xs' ys ys' hf hx ex hy ey);simp only[Au,AAz]at hb;rcases hb with hb | hb
   ·exact hl _ _ hx2 hb
   ·exact hl _ _ hy2 hb
  | _=>cases hb
theorem FJ {μ:Ae} {l l':AL} (h:Am μ l l'):∀b∈l.flatMap (Au 4),∃T,μ b=some T:=by
 intro b hb;induction h with
 | nil=>cases hb
 | cons h1 _ ih=>
  rw[ABN,AAz]at hb;rcases hb with hb | hb
  ·exact fa 4 _ _ h1 b hb
  ·exact ih hb
theorem YG {k:EK} {l:List (EK.C k)} {ro:Bool} {c:Nat} (h:c∈UG (.vec k l ro)):c∈List.flatMap (Au 4) (Ag k l):=by
 unfold UG at h;split at h
 ·rename_i heq;cases heq
 ·rename_i l2 ro2 he;cases he
  rw[D9];exact h
 ·rename_i l2 ro2 he;cases he
  exact h
 ·cases h
theorem Sj {base:Env} {W0 W:World} {μ:Ae} {H:AA} (hH:AJ base W0 μ H W) {N:Nat}:∀(f:Nat) (todo seen:AW),(∀b∈todo,∃T,μ b=some T)->(seen.Nodup/\∀b∈seen,N<=b/\∃T,μ b=some T)->
 (Cr H N f todo seen).Nodup/\∀b∈Cr H N f todo seen,N<=b/\∃T,μ b=some T:=by
 intro f;induction f with
 | zero=>intro todo seen _ h;exact h
 | succ f ih=>
  intro todo seen ht hs;unfold Cr;split
  ·exact hs
  ·rename_i b r;cases hc:(Nat.blt b N||seen.any (Nat.beq b))
   ·simp only[EB];simp only[xp]at hc;obtain⟨T,hT⟩:=ht b (by simp);have hNb:N<=b:=by
     rcases U1 b N with h | h
     ·have:=Ez h;rw[show Nat.ble (b+1) N=Nat.blt b N from rfl,hc.1]at this;cases this
     ·exact h
    split
    ·rename_i o ho;refine ih _ _ (fun c hc2=>?_) ⟨?_,fun c hc2=>?_⟩
     ·rcases List.mem_append.1 hc2 with hc2 | hc2
      ·cases o with
       | cells cs e ro=>
        obtain⟨o',_,hr⟩:=hH.obj b _ ho T hT;cases hr with
        | cells _ _ _ arr t lo hi he hcl hr hf=>exact FJ hcl c hc2
       | vec k l ro=>
        have hc3:=YG hc2;obtain⟨o',_,hr⟩:=hH.obj b _ ho T hT;cases hr with
        | vec _ _ _ _ hc=>
         cases hc with
         | cells _ _ _ arr t lo hi he hcl hr hf=>exact FJ hcl c hc3
        | Du _ _ _ _ _ _=>cases hc3
       | _=>simp[UG]at hc2
      ·exact ht c (by simp[hc2])
     ·rw[List.nodup_append];refine⟨hs.1,by simp,?_⟩;intro x hx y hy;simp only[Q4]at hy;subst hy;rintro rfl;have:=List.any_eq_true.2 ⟨x,hx,VX x⟩;rw[hc.2]at this;cases this
     ·rcases List.mem_append.1 hc2 with hc2 | hc2
      ·exact hs.2 c hc2
      ·simp only[Q4]at hc2;subst hc2;exact⟨hNb,T,hT⟩
    ·exact ih _ _ (fun c hc2=>ht c (by simp[hc2])) hs
   ·simp only[C8];exact ih _ _ (fun c hc2=>ht c (by simp[hc2])) hs
def CR (b nx i:Nat):Nat:=if i=0 then b else nx+(i - 1)
def He (b nx n:Nat) (ext:AW:=[]):Ren:=fun i=>if i < n then some (CR b nx i)else ext[i - n]?
def UC (ro:Bool) (o:AP):AP:=if ro then Km o else o
theorem jg {μ:Ae} {T:Bc} {o:AP} {o':Obj} {ro:Bool} (h:CZ μ T o o'):CZ μ T (UC ro o) o':=by
 cases ro
 ·exact h
 ·exact W8 h
theorem Gm {ro:Bool} {o:AP} {T:Bc}:(UC ro o).void T ↔ o.void T:=by
 cases ro
 ·exact AAZ
 ·exact Sg
theorem mF {ro:Bool} {o:AP} (hp:o.Kg=true) (h:o.ro=false):(UC ro o).ro=ro:=by
 cases ro
 ·exact h
 ·cases o<;>first | rfl | cases hp
structure FB (H:AA) (b:Nat) (ro:Bool) (objs:BN) (H':AA) (ext:AW:=[]):Prop where
 next:H'.next=H.next+(objs.length - 1)
 GK:∀x,x≠b->x < H.next->H'.get x=H.get x
 top:∀x,H'.next<=x->H'.get x=none
 obj:∀(i:Nat) (o:AP),objs[i]? = some o->∃o1,BV (He b H.next objs.length ext) (UC ro o)=some o1/\H'.get (CR b H.next i)=some o1
section
variable {base:Env} {W0:World} {μ:Ae} {H:AA} {W:World}
theorem AJ.opened (h:AJ base W0 μ H W) {b:Nat} {s:Pk} {ro:Bool} {T:Bc} (hb:H.get b=some (.abs (.pack s) ro)) (hm:μ b=some T):
 ∃objs,Bx s objs/\∀H',FB H b ro objs H' (C3 s)->∃μ',AJ base W0 μ' H' W/\Ap μ H μ' H'/\∀i,i < objs.length->∃T,μ' (CR b H.next i)=some T:=by
 obtain⟨φ,q⟩:=h.abs;obtain⟨hrep,hK⟩:=q.rep b _ ro T hb hm;have hrep:Fg μ W s T (φ b):=hrep;have hlt:=h.lt hb;generalize hFb:φ b=F at hrep;cases hrep with
 | mk _ objs ts Fs _ _ hr hl hT hroot hobj hcell hbld hmem hext hpack hdis hF us Fm hmp hmq=>
  refine⟨objs,hr,fun H' hH=>?_⟩;have h0:0 < objs.length:=by
   rcases ABr objs.length with h | h
   ·rw[T6 (by omega)]at hT;cases hT
   ·exact h
  let μ':Ae:=fun x=>if H.next<=x/\x < H.next+(objs.length - 1)then ts[x - H.next+1]? else μ x
  have mlow:∀x,x < H.next->μ' x=μ x:=fun x hx=>by show(if _ then _ else _)=_;rw[JT (by omega)]
  have mpk:∀i,i < objs.length->μ' (CR b H.next i)=ts[i]?:=by
   intro i hi;unfold CR
   by_cases e:i=0
   ·subst e;rw[MB rfl,mlow b hlt,hm,hT]
   ·rw[JT e];show(if _ then _ else _)=_;rw[MB (by omega),show H.next+(i - 1) - H.next+1=i by omega]
  have mtop:∀x,H'.next<=x->μ' x=none:=by
   intro x hx;rw[hH.next]at hx;show(if _ then _ else _)=_;rw[JT (by omega)];exact(h.fresh x (by omega)).2
  have mle:μ.le μ':=by
   intro x X e;rcases U1 x H.next with hx | hx
   ·rw[mlow x hx];exact e
   ·rw[(h.fresh x hx).2]at e;cases e
  have key:∀x o1,H'.get x=some o1->(∃i o,i < objs.length/\objs[i]? = some o/\x=CR b H.next i/\BV (He b H.next objs.length (C3 s)) (UC ro o)=some o1)∨(x≠b/\x < H.next/\H.get x=some o1):=by
   intro x o1 hx;have pk:∀i,i < objs.length->x=CR b H.next i->∃i o,i < objs.length/\objs[i]? = some o/\x=CR b H.next i/\BV (He b H.next objs.length (C3 s)) (UC ro o)=some o1:=by
    intro i hi e;obtain⟨o2,r1,r2⟩:=hH.obj i _ (Jj hi);rw[<-e,hx]at r2;cases r2
    exact⟨i,_,hi,Jj hi,e,r1⟩
   by_cases e:x=b
   ·exact .inl (pk 0 h0 (by unfold CR;rw[MB rfl];exact e))
   ·rcases U1 x H.next with hx2 | hx2
    ·exact .inr ⟨e,hx2,by rw[<-hH.GK x e hx2];exact hx⟩
    ·rcases U1 x H'.next with hx3 | hx3
     ·rw[hH.next]at hx3;exact .inl (pk (x - H.next+1) (by omega) (by unfold CR;rw[JT (by omega)];omega))
     ·rw[hH.top x hx3]at hx;cases hx
  have pinj:∀i j,i < objs.length->j < objs.length->CR b H.next i=CR b H.next j->i=j:=by
   intro i j hi hj e;unfold CR at e
   by_cases e1:i=0
   ·by_cases e2:j=0
    ·omega
    ·rw[MB e1,JT e2]at e;omega
   ·by_cases e2:j=0
    ·rw[JT e1,MB e2]at e;omega
    ·rw[JT e1,JT e2]at e;omega
  have own:∀i o T',objs[i]? = some o->ts[i]? = some T'->(¬o.void T'->Fs i T'.c)/\(∀x,Fs i x->F x):=by
   intro i o T' ho ht;have hi:i < objs.length:=(List.getElem?_eq_some_iff.1 ho).1;refine⟨?_,fun x hx=>(hF x).2 ⟨i,hi,hx⟩⟩;cases hab:o.isAbs
   ·exact fun hv=>(hcell i o T' ho ht hab _).2 ⟨rfl,hv⟩
   ·obtain⟨a,r,rfl⟩:=Fb hab;cases a with
    | eg t e l=>exact fun _=>(GH.JA (hbld i t e l r T' ho ht)).1
    | pack s'=>exact fun _=>(Fg.JA (hpack i s' r T' ho ht)).1
    | mem k L=>exact fun hv=>absurd trivial hv
    | Bl L=>exact fun hv=>absurd trivial hv
  have rep:∀i a r T',objs[i]? = some (.abs a r)->ts[i]? = some T'->GB μ a T' (Fs i) W:=by
   intro i a r T' ho ht;cases a with
   | eg t e l=>exact hbld i t e l r T' ho ht
   | pack s'=>exact hpack i s' r T' ho ht
   | mem k L=>exact hmem i k L r T' ho ht
   | Bl L=>exact⟨us i,Fm i,hmp i L r T' ho ht,fun j M s' hM hj=>hmq i L r j M s' ho hM hj⟩
  have absOf:∀{o:AP} {a:Ct} {r:Bool},BV (He b H.next objs.length (C3 s)) (UC ro o)=some (.abs a r)->∃r0,o= .abs a r0/\(r0=false->r=ro):=by
   intro o a r e;have e1:=((EO e).2.2 a r rfl).1;cases ro
   ·exact⟨r,e1,fun h=>h⟩
   ·cases o<;>first | (cases e1;done) | skip
    rename_i a0 r0;have e1:AP.abs a0 true= .abs a r:=e1;cases e1
    exact⟨r0,rfl,fun _=>rfl⟩
  refine⟨μ',⟨?_,?_,?_,?_,?_,h.size,h.below,h.out,h.os,?_,Ae.le_trans h.le mle,h.grow⟩,⟨mle,by rw[hH.next];omega,?_⟩,fun i hi=>⟨_,by rw[mpk i hi];exact Jj (by omega)⟩⟩
  ·intro x o1 hx T' hT';rcases key x o1 hx with⟨i,o,hi,ho,rfl,hr1⟩ | ⟨hxb,hxl,hx2⟩
   ·rw[mpk i hi]at hT';obtain⟨_,_,o',r1,r2⟩:=hobj i o T' ho hT';refine⟨o',r1,VS (μ:=Qn μ ts (C3 s)) (fun p j X hp hX=>?_) hr1 (jg r2)⟩;unfold He at hp;split at hp
    ·rename_i hpl;cases hp
     rw[Zo (by omega)]at hX;rw[mpk p hpl];exact hX
    ·rename_i hpl;unfold Qn at hX;rw[JT (by omega),hl,hp]at hX;exact mle _ _ hX
   ·rw[mlow x hxl]at hT';obtain⟨o',r1,r2⟩:=h.obj x o1 hx2 T' hT';exact⟨o',r1,r2.mono mle⟩
  ·intro x o1 hx hro T' hT' hv;rcases key x o1 hx with⟨i,o,hi,ho,rfl,hr1⟩ | ⟨hxb,hxl,hx2⟩
   ·rw[mpk i hi]at hT';obtain⟨g1,g2,_⟩:=hobj i o T' ho hT';have e1:ro=false:=by rw[<-mF (ro:=ro) g2 g1,<-(EO hr1).1];exact hro
    obtain⟨f1,f2⟩:=own i o T' ho hT';exact hK e1 _ (by rw[hFb];exact f2 _ (f1 (fun hw=>hv (((CD hr1 T').trans Gm).2 hw))))
   ·rw[mlow x hxl]at hT';exact h.own x o1 hx2 hro T' hT' hv
  ·intro x y o1 o2 hx hy T1 T2 h1 h2 v1 v2 hc hrr;rcases key x o1 hx with⟨i,o,hi,ho,rfl,hr1⟩ | ⟨hxb,hxl,hx2⟩
   ·rcases key y o2 hy with⟨j,p,hj,hp,rfl,hr2⟩ | ⟨hyb,hyl,hy2⟩
    ·rw[mpk i hi]at h1;rw[mpk j hj]at h2;have f1:=(own i o T1 ho h1).1 (fun hw=>v1 (((CD hr1 T1).trans Gm).2 hw));have f2:=(own j p T2 hp h2).1 (fun hw=>v2 (((CD hr2 T2).trans Gm).2 hw));rw[hc]at f1;rw[hdis i j _ hi hj f1 f2]
    ·rw[mpk i hi]at h1;rw[mlow y hyl]at h2;obtain⟨f1,f2⟩:=own i o T1 ho h1;have f1:=f1 (fun hw=>v1 (((CD hr1 T1).trans Gm).2 hw));have:=(q.DG b _ ro T hb hm y o2 T2 hy2 h2 hyb).1 v2;rw[hFb,<-hc]at this;exact absurd (f2 _ f1) this
   ·rcases key y o2 hy with⟨j,p,hj,hp,rfl,hr2⟩ | ⟨hyb,hyl,hy2⟩
    ·rw[mpk j hj]at h2;rw[mlow x hxl]at h1;obtain⟨f1,f2⟩:=own j p T2 hp h2;have f1:=f1 (fun hw=>v2 (((CD hr2 T2).trans Gm).2 hw));have:=(q.DG b _ ro T hb hm x o1 T1 hx2 h1 hxb).1 v1;rw[hFb,hc]at this;exact absurd (f2 _ f1) this
    ·rw[mlow x hxl]at h1;rw[mlow y hyl]at h2;exact h.inj x y o1 o2 hx2 hy2 T1 T2 h1 h2 v1 v2 hc hrr
  ·intro x hx;exact⟨hH.top x hx,mtop x hx⟩
  ·intro x T' hT';have hx:H.next<=x/\x < H.next+(objs.length - 1)∨μ x=some T':=by
    by_cases c:H.next<=x/\x < H.next+(objs.length - 1)
    ·exact .inl c
    ·right
     have:(if H.next<=x/\x < H.next+(objs.length - 1)then ts[x - H.next+1]? else μ x)=some T':=hT'
     rwa [JT c]at this
   rcases hx with hx | hx
   ·have:(if H.next<=x/\x < H.next+(objs.length - 1)then ts[x - H.next+1]? else μ x)=some T':=hT';rw[MB hx]at this;have hi:x - H.next+1 < objs.length:=by omega
    obtain⟨_,_,o',r1,_⟩:=hobj (x - H.next+1) _ T' (Jj hi) this;exact lt_of_heap r1
   ·exact h.bound x T' hx
  ·refine⟨fun x=>if x=b then Fs 0 else if H.next<=x then Fs (x - H.next+1)else φ x,?_,?_⟩
   all_goals
    have hφ:∀i,i < objs.length->(if CR b H.next i=b then Fs 0 else if H.next<=CR b H.next i then Fs (CR b H.next i - H.next+1)else φ (CR b H.next i))=Fs i:=by
     intro i hi;unfold CR
     by_cases e:i=0
     ·subst e;simp
     ·rw[JT e,JT (by omega),MB (by omega),show H.next+(i - 1) - H.next+1=i by omega]
    have hφ2:∀x,x≠b->x < H.next->(if x=b then Fs 0 else if H.next<=x then Fs (x - H.next+1)else φ x)=φ x:=fun x e hx=>by rw[JT e,JT (by omega)]
   ·intro x a r T' hx hT';rcases key x _ hx with⟨i,o,hi,ho,rfl,hr1⟩ | ⟨hxb,hxl,hx2⟩
    ·simp only[hφ i hi];rw[mpk i hi]at hT';obtain⟨r0,rfl,hr0⟩:=absOf hr1;refine⟨(rep i a r0 T' ho hT').mono mle,fun hr y hy=>?_⟩;have g1:=(hobj i _ T' ho hT').1;exact hK (by rw[<-hr0 g1];exact hr) y (by rw[hFb];exact(own i _ T' ho hT').2 y hy)
    ·simp only[hφ2 x hxb hxl];rw[mlow x hxl]at hT';obtain⟨w1,w2⟩:=q.rep x a r T' hx2 hT';exact⟨w1.mono mle,w2⟩
   ·intro x a r T' hx hT' y o2 T2 hy hT2 hne;rcases key x _ hx with⟨i,o,hi,ho,rfl,hr1⟩ | ⟨hxb,hxl,hx2⟩
    ·rw[mpk i hi]at hT';simp only[hφ i hi];rcases key y o2 hy with⟨j,p,hj,hp,rfl,hr2⟩ | ⟨hyb,hyl,hy2⟩
     ·rw[mpk j hj]at hT2;simp only[hφ j hj];have hij:i≠j:=fun e=>hne (by rw[e])
      exact⟨fun hv2 e=>hij (hdis i j _ hi hj e ((own j p T2 hp hT2).1 (fun hw=>hv2 (((CD hr2 T2).trans Gm).2 hw)))),fun _ z hz hz2=>hij (hdis i j z hi hj hz hz2)⟩
     ·rw[mlow y hyl]at hT2;simp only[hφ2 y hyb hyl];have hf:=q.DG b _ ro T hb hm y o2 T2 hy2 hT2 hyb;rw[hFb]at hf;exact⟨fun hv2 e=>hf.1 hv2 ((own i o T' ho hT').2 _ e),fun hab z hz hz2=>hf.2 hab z ((own i o T' ho hT').2 _ hz) hz2⟩
    ·rw[mlow x hxl]at hT';simp only[hφ2 x hxb hxl];rcases key y o2 hy with⟨j,p,hj,hp,rfl,hr2⟩ | ⟨hyb,hyl,hy2⟩
     ·rw[mpk j hj]at hT2;simp only[hφ j hj];have hf:=(q.DG x a r T' hx2 hT' b _ T hb hm (gi hxb)).2 rfl;rw[hFb]at hf;exact⟨fun hv2 e=>hf _ e ((own j p T2 hp hT2).2 _ ((own j p T2 hp hT2).1 (fun hw=>hv2 (((CD hr2 T2).trans Gm).2 hw)))),fun _ z hz hz2=>hf z hz ((own j p T2 hp hT2).2 z hz2)⟩
     ·rw[mlow y hyl]at hT2;simp only[hφ2 y hyb hyl];exact q.DG x a r T' hx2 hT' y o2 T2 hy2 hT2 hne
  ·intro x hx hn;rw[mlow x hx];refine⟨hn,?_⟩;have:x≠b:=by rintro rfl;rw[hm]at hn;cases hn
   exact hH.GK x this hx
end
theorem W4 {a:Ct} {r:Bool} {T:Bc} (h:¬(AP.abs a r).void T):¬(AP.abs a false).void T:=by cases a<;>exact h
def RQ (bs ext:AW):Ren:=fun i=>if i < bs.length then bs[i]? else ext[i - bs.length]?
open Classical in
structure vM (H:AA) (s:Pk) (bs:AW) (H':AA):Prop where
 next:H'.next=H.next
 root:∀b,bs[0]? = some b->H'.get b=some (.abs (.pack s) false)
 rest:∀i b,0 < i->bs[i]? = some b->H'.get b=none
 GK:∀x,x∉bs->H'.get x=H.get x
section
variable {base:Env} {W0:World} {μ:Ae} {H:AA} {W:World}
theorem AJ.shut (h:AJ base W0 μ H W) {s:Pk} {objs:BN} {bs:AW} (hr:Bx s objs) (hnd:bs.Nodup) (hlen:bs.length=objs.length) (hne:objs≠[])
 (hmap:∀b∈bs,∃T,μ b=some T) (hobj:∀(i b:Nat) (o:AP),bs[i]? = some b->objs[i]? = some o->∃o1,H.get b=some o1/\o1.ro=false/\o1.Kg=true/\BV (RQ bs (C3 s)) o=some o1)
 {H':AA} (hS:vM H s bs H') (hroot:∀o T,objs[0]? = some o->¬o.void T):AJ base W0 μ H' W/\Ap μ H μ H':=by
 obtain⟨φ,q⟩:=h.abs;have h0:0 < objs.length:=List.length_pos_iff.2 hne;let tg:Nat->Bc:=fun b=>(μ b).getD ⟨0,0,0,0⟩
 have htg:∀b∈bs,μ b=some (tg b):=by
  intro b hb;obtain⟨T,hT⟩:=hmap b hb;show μ b=some ((μ b).getD _);rw[hT];rfl
 let ts:List Bc:=bs.map tg
 have hts:∀(i b:Nat),bs[i]? = some b->ts[i]? = some (tg b):=fun i b hb=>by show(bs.map tg)[i]? = _;rw[Sy,hb];rfl
 have tsl:ts.length=objs.length:=by show(bs.map tg).length=_;rw[oB,hlen]
 have bat:∀(i:Nat),i < objs.length->∃b,bs[i]? = some b:=fun i hi=>⟨_,Jj (by omega)⟩
 have mem:∀{i b:Nat},bs[i]? = some b->b∈bs:=fun hb=>cA hb
 have tsb:∀(i:Nat) (T':Bc),ts[i]? = some T'->∃b,bs[i]? = some b/\T'=tg b/\μ b=some T':=by
  intro i T' ht;have ht:(bs.map tg)[i]? = some T':=ht;rw[Sy]at ht;cases hb:bs[i]? with
  | none=>rw[hb]at ht;cases ht
  | some b=>rw[hb]at ht;cases ht;exact⟨b,rfl,rfl,htg b (mem hb)⟩
 have uniq:∀(i j b:Nat),bs[i]? = some b->bs[j]? = some b->i=j:=by
  intro i j b hi hj;obtain⟨hi1,hi2⟩:=List.getElem?_eq_some_iff.1 hi;obtain⟨hj1,hj2⟩:=List.getElem?_eq_some_iff.1 hj;have hp:=List.pairwise_iff_getElem.1 hnd;rcases Nat.lt_trichotomy i j with hh | hh | hh
  ·exact absurd (hi2.trans hj2.symm) (hp i j hi1 hj1 hh)
  ·exact hh
  ·exact absurd (hj2.trans hi2.symm) (hp j i hj1 hi1 hh)
 let Fs:Nat->Nat->Prop:=fun i x=>∃b o,bs[i]? = some b/\H.get b=some o/\((o.isAbs=true/\φ b x)∨(o.isAbs=false/\x=(tg b).c/\¬o.void (tg b)))
 have oab:∀(i b:Nat) (o:AP),bs[i]? = some b->objs[i]? = some o->∃o1,H.get b=some o1/\o1.ro=false/\o1.Kg=true/\BV (RQ bs (C3 s)) o=some o1/\o.isAbs=o1.isAbs/\o.ro=false:=by
  intro i b o hb ho;obtain⟨o1,r1,r2,r3,r4⟩:=hobj i b o hb ho;obtain⟨e1,e2,e3⟩:=EO r4;exact⟨o1,r1,r2,r3,r4,e2.symm,by rw[<-e1];exact r2⟩
 have Fs_cell:∀(i b:Nat) (o1:AP),bs[i]? = some b->H.get b=some o1->o1.isAbs=false->∀x,Fs i x ↔ (x=(tg b).c/\¬o1.void (tg b)):=by
  intro i b o1 hb hg hab x;constructor
  ·rintro⟨b2,o2,g1,g2,g3⟩;rw[hb]at g1;cases g1
   rw[hg]at g2;cases g2
   rcases g3 with⟨g3,_⟩ | ⟨_,g3⟩
   ·rw[hab]at g3;cases g3
   ·exact g3
  ·intro e;exact⟨b,o1,hb,hg,.inr ⟨hab,e⟩⟩
 have Fs_abs:∀(i b:Nat) (o1:AP),bs[i]? = some b->H.get b=some o1->o1.isAbs=true->∀x,Fs i x ↔ φ b x:=by
  intro i b o1 hb hg hab x;constructor
  ·rintro⟨b2,o2,g1,g2,g3⟩;rw[hb]at g1;cases g1
   rw[hg]at g2;cases g2
   rcases g3 with⟨_,g3⟩ | ⟨g3,_⟩
   ·exact g3
   ·rw[hab]at g3;cases g3
  ·intro e;exact⟨b,o1,hb,hg,.inl ⟨hab,e⟩⟩
 have oro:∀(i b:Nat) (o1:AP),i < objs.length->bs[i]? = some b->H.get b=some o1->o1.ro=false:=by
  intro i b o1 hi hb hg;obtain⟨o2,r1,r2,_⟩:=oab i b _ hb (Jj hi);rw[hg]at r1;cases r1
  exact r2
 have apart:∀b1 o1 b2 o2,b1≠b2->H.get b1=some o1->H.get b2=some o2->(o1.ro=false∨o2.ro=false)->∀T1 T2,μ b1=some T1->μ b2=some T2->∀x,((o1.isAbs=true/\φ b1 x)∨(o1.isAbs=false/\x=T1.c/\¬o1.void T1))->((o2.isAbs=true/\φ b2 x)∨(o2.isAbs=false/\x=T2.c/\¬o2.void T2))->False:=by
  intro b1 o1 b2 o2 hne12 g1 g2 hrr T1 T2 m1 m2 x p1 p2;rcases p1 with⟨a1,p1⟩ | ⟨a1,p1,v1⟩
  ·obtain⟨a,r,rfl⟩:=Fb a1;rcases p2 with⟨a2,p2⟩ | ⟨a2,p2,v2⟩
   ·exact(q.DG b1 a r T1 g1 m1 b2 o2 T2 g2 m2 (gi hne12)).2 a2 x p1 p2
   ·rw[p2]at p1;exact(q.DG b1 a r T1 g1 m1 b2 o2 T2 g2 m2 (gi hne12)).1 v2 p1
  ·rcases p2 with⟨a2,p2⟩ | ⟨a2,p2,v2⟩
   ·obtain⟨a,r,rfl⟩:=Fb a2;have hf:=q.DG b2 a r T2 g2 m2 b1 o1 T1 g1 m1 hne12;rw[p1]at p2;exact hf.1 v1 p2
   ·exact hne12 (h.inj b1 b2 o1 o2 g1 g2 T1 T2 m1 m2 v1 v2 (by rw[<-p1,<-p2]) hrr)
 have root:∀(i b:Nat) (o1:AP),bs[i]? = some b->H.get b=some o1->¬o1.void (tg b)->Fs i (tg b).c:=by
  intro i b o1 hb hg hv;cases hab:o1.isAbs
  ·exact(Fs_cell i b o1 hb hg hab _).2 ⟨rfl,hv⟩
  ·obtain⟨a,r,rfl⟩:=Fb hab;exact(Fs_abs i b _ hb hg rfl _).2 ((GB.JA _ _ _ _ (q.rep b a r _ hg (htg b (mem hb))).1).1 (W4 hv))
 obtain⟨b0,hb0⟩:=bat 0 h0;let F:Nat->Prop:=fun x=>∃i,i < objs.length/\Fs i x
 have hx:∀i,∃p:List Bc × (Nat->Nat->Prop),∀(L:List (Option Pk)) (r:Bool) (T':Bc),objs[i]? = some (.abs (.Bl L) r)->ts[i]? = some T'->Oh L T' (Fs i) W p.1 p.2/\∀(j:Nat) (M:Bc) (s':Pk),p.1[j]? = some M->L[j]? = some (some s')->Fg μ W s' M (p.2 j):=by
  intro i
  by_cases hE:∃L r T',objs[i]? = some (.abs (.Bl L) r)/\ts[i]? = some T'
  ·obtain⟨L,r,T',ho,ht⟩:=hE;obtain⟨b,hb,rfl,hm⟩:=tsb i T' ht;obtain⟨o1,r1,r2,r3,r4,r5,r6⟩:=oab i b _ hb ho;obtain⟨rfl,_⟩:=Gx r4;obtain⟨us,Fm,h1,h2⟩:=(q.rep b _ r _ r1 hm).1;have h3:Fs i=φ b:=funext fun x=>propext (Fs_abs i b _ hb r1 rfl x)
   refine⟨(us,Fm),fun L2 r2 T2 ho2 ht2=>?_⟩;rw[ho]at ho2;cases ho2
   rw[ht]at ht2;cases ht2
   rw[h3];exact⟨h1,h2⟩
  ·exact⟨([],fun _ _=>False),fun L r T' ho ht=>absurd ⟨L,r,T',ho,ht⟩ hE⟩
 obtain⟨pm,hpm⟩:=Classical.axiomOfChoice hx;have hrep:Fg μ W s (tg b0) F:=by
  refine .mk s objs ts Fs _ F hr tsl (hts 0 b0 hb0) (fun o ho=>hroot o _ ho) ?_ ?_ ?_ ?_ ?_ ?_ ?_ (fun x=>AAZ) (fun i=>(pm i).1) (fun i=>(pm i).2) (fun i L r T' ho ht=>(hpm i L r T' ho ht).1) (fun i L r j M s' ho hM hj=>?_)
  ·intro i o T' ho ht;obtain⟨b,hb,rfl,hm⟩:=tsb i T' ht;obtain⟨o1,r1,r2,r3,r4,r5,r6⟩:=oab i b o hb ho;obtain⟨o',s1,s2⟩:=h.obj b o1 r1 _ hm;refine⟨r6,?_,o',s1,R1 (ν:=μ) (fun p j X hp hX=>?_) r4 s2⟩
   ·cases o1<;>cases o<;>first | rfl | (simp[BV]at r4;done) | (cases r3;done) | skip
    all_goals (simp[BV]at r4)
   ·unfold RQ at hp;split at hp
    ·rename_i hpl;rw[Zo (by omega),hts p j hp];have:=htg j (mem hp);rw[hX]at this;exact this.symm
    ·rename_i hpl;unfold Qn;rw[JT (by omega),tsl,<-hlen,hp];exact hX
  ·intro i o T' ho ht hab x;obtain⟨b,hb,rfl,hm⟩:=tsb i T' ht;obtain⟨o1,r1,r2,r3,r4,r5,r6⟩:=oab i b o hb ho;rw[Fs_cell i b o1 hb r1 (by rw[<-r5];exact hab) x];exact and_congr_right fun _=>not_congr (CD r4 _)
  ·intro i t e l r T' ho ht;obtain⟨b,hb,rfl,hm⟩:=tsb i T' ht;obtain⟨o1,r1,r2,r3,r4,r5,r6⟩:=oab i b _ hb ho;obtain⟨rfl,_⟩:=Gx r4;have h1:=(q.rep b _ r _ r1 hm).1;have h2:Fs i=φ b:=funext fun x=>propext (Fs_abs i b _ hb r1 rfl x)
   rw[h2];exact h1
  ·intro i k L r T' ho ht;obtain⟨b,hb,rfl,hm⟩:=tsb i T' ht;obtain⟨o1,r1,r2,r3,r4,r5,r6⟩:=oab i b _ hb ho;obtain⟨rfl,_⟩:=Gx r4;have h1:=(q.rep b _ r _ r1 hm).1;have h2:Fs i=φ b:=funext fun x=>propext (Fs_abs i b _ hb r1 rfl x)
   rw[h2];exact h1
  ·intro i s' r ho;obtain⟨b,hb⟩:=bat i (List.getElem?_eq_some_iff.1 ho).1;obtain⟨o1,r1,r2,r3,r4,r5,r6⟩:=oab i b _ hb ho;exact(Gx r4).2
  ·intro i s' r T' ho ht;obtain⟨b,hb,rfl,hm⟩:=tsb i T' ht;obtain⟨o1,r1,r2,r3,r4,r5,r6⟩:=oab i b _ hb ho;obtain⟨rfl,_⟩:=Gx r4;have h1:=(q.rep b _ r _ r1 hm).1;have h2:Fs i=φ b:=funext fun x=>propext (Fs_abs i b _ hb r1 rfl x)
   rw[h2];exact h1
  ·rintro i j x hi hj ⟨b1,o1,g1,g2,g3⟩ ⟨b2,o2,k1,k2,k3⟩;rcases Nat.decEq i j with hij | hij
   ·exfalso;have hne12:b1≠b2:=by rintro rfl;exact hij (uniq i j b1 g1 k1)
    exact apart b1 o1 b2 o2 hne12 g2 k2 (.inl (oro i b1 o1 hi g1 g2)) _ _ (htg b1 (mem g1)) (htg b2 (mem k1)) x g3 k3
   ·exact hij
  ·obtain⟨T',ht⟩:∃T',ts[i]? = some T':=⟨_,Jj (by rw[tsl];exact(List.getElem?_eq_some_iff.1 ho).1)⟩
   exact(hpm i L r T' ho ht).2 j M s' hM hj
 have hb0m:=htg b0 (mem hb0);obtain⟨o00,ho00⟩:∃o,objs[0]? = some o:=⟨_,Jj h0⟩
 obtain⟨o01,hg0,hro0,_,hr01,_,_⟩:=oab 0 b0 o00 hb0 ho00;have hv01:∀T,¬o01.void T:=fun T hw=>hroot o00 T ho00 ((CD hr01 T).1 hw)
 have key:∀x o1,H'.get x=some o1->(x=b0/\o1= .abs (.pack s) false)∨(x∉bs/\H.get x=some o1):=by
  intro x o1 hx
  by_cases hxb:x∈bs
  ·obtain⟨i,hi,e⟩:=AAU hxb;have hi':bs[i]? = some x:=by rw[Jj hi,e]
   by_cases e0:i=0
   ·subst e0;rw[hb0]at hi';cases hi'
    rw[hS.root b0 hb0]at hx;cases hx
    exact .inl ⟨rfl,rfl⟩
   ·rw[hS.rest i x (by omega) hi']at hx;cases hx
  ·exact .inr ⟨hxb,by rw[<-hS.GK x hxb];exact hx⟩
 have Fown:∀x,F x->¬base.K x:=by
  rintro x ⟨i,hi,b,o1,g1,g2,g3⟩;obtain⟨o,ho⟩:∃o,objs[i]? = some o:=⟨_,Jj hi⟩
  obtain⟨o2,r1,r2,r3,r4,r5,r6⟩:=oab i b o g1 ho;rw[g2]at r1;cases r1
  rcases g3 with⟨a,g3⟩ | ⟨a,g3,gv⟩
  ·obtain⟨a',r,rfl⟩:=Fb a;exact(q.rep b a' r _ g2 (htg b (mem g1))).2 r2 x g3
  ·rw[g3];exact h.own b o1 g2 r2 _ (htg b (mem g1)) gv
 have Fout:∀x,F x->∀y o2 T2,y∉bs->H.get y=some o2->μ y=some T2->((o2.isAbs=true/\φ y x)∨(o2.isAbs=false/\x=T2.c/\¬o2.void T2))->False:=by
  rintro x ⟨i,hi,b,o1,g1,g2,g3⟩ y o2 T2 hy hg hm hp;exact apart b o1 y o2 (by rintro rfl;exact hy (mem g1)) g2 hg (.inl (oro i b o1 hi g1 g2)) _ _ (htg b (mem g1)) hm x g3 hp
 have hroot2:F (tg b0).c:=⟨0,h0,root 0 b0 o01 hb0 hg0 (hv01 _)⟩;have cOf:∀y o2 T2,H.get y=some o2->μ y=some T2->¬o2.void T2->((o2.isAbs=true/\φ y T2.c)∨(o2.isAbs=false/\T2.c=T2.c/\¬o2.void T2)):=by
  intro y o2 T2 hg hm hv;cases hab:o2.isAbs
  ·exact .inr ⟨rfl,rfl,hv⟩
  ·obtain⟨a,r,rfl⟩:=Fb hab;exact .inl ⟨rfl,(GB.JA _ _ _ _ (q.rep y a r T2 hg hm).1).1 (W4 hv)⟩
 refine⟨⟨?_,?_,?_,?_,h.bound,h.size,h.below,h.out,h.os,?_,h.le,h.grow⟩,⟨Ae.le_refl _,by rw[hS.next];exact GO _,?_⟩⟩
 ·intro x o1 hx T' hT';rcases key x o1 hx with⟨rfl,rfl⟩ | ⟨hxb,hx2⟩
  ·obtain⟨o',r1,_⟩:=h.obj _ _ hg0 T' hT';exact⟨o',r1,.abs T' _ _ _⟩
  ·exact h.obj x o1 hx2 T' hT'
 ·intro x o1 hx hro T' hT' hv;rcases key x o1 hx with⟨rfl,rfl⟩ | ⟨hxb,hx2⟩
  ·exact h.own _ _ hg0 hro0 T' hT' (hv01 _)
  ·exact h.own x o1 hx2 hro T' hT' hv
 ·intro x y o1 o2 hx hy T1 T2 h1 h2 v1 v2 hc hrr;rcases key x o1 hx with⟨rfl,rfl⟩ | ⟨hxb,hx2⟩
  ·rcases key y o2 hy with⟨rfl,rfl⟩ | ⟨hyb,hy2⟩
   ·rfl
   ·exact h.inj _ y _ o2 hg0 hy2 T1 T2 h1 h2 (hv01 _) v2 hc (.inl hro0)
  ·rcases key y o2 hy with⟨rfl,rfl⟩ | ⟨hyb,hy2⟩
   ·exact h.inj x _ o1 _ hx2 hg0 T1 T2 h1 h2 v1 (hv01 _) hc (.inr hro0)
   ·exact h.inj x y o1 o2 hx2 hy2 T1 T2 h1 h2 v1 v2 hc hrr
 ·intro x hx;rw[hS.next]at hx;refine⟨?_,(h.fresh x hx).2⟩;have:x∉bs:=fun hm=>by
   have:=htg x hm;rw[(h.fresh x hx).2]at this;cases this
  rw[hS.GK x this];exact(h.fresh x hx).1
 ·refine⟨fun x=>if x=b0 then F else φ x,?_,?_⟩
  ·intro x a r T' hx hT';rcases key x _ hx with⟨rfl,e⟩ | ⟨hxb,hx2⟩
   ·cases e
    rw[hb0m]at hT';cases hT'
    simp only[AAR];exact⟨hrep,fun _=>Fown⟩
   ·have:x≠b0:=by rintro rfl;exact hxb (mem hb0)
    simp only[JT this];exact q.rep x a r T' hx2 hT'
  ·intro x a r T' hx hT' y o2 T2 hy hT2 hne2;rcases key x _ hx with⟨rfl,e⟩ | ⟨hxb,hx2⟩
   ·cases e
    rcases key y o2 hy with⟨rfl,_⟩ | ⟨hyb,hy2⟩
    ·exact absurd rfl hne2
    ·simp only[AAR,JT hne2];exact⟨fun hv2 e=>Fout _ e y o2 T2 hyb hy2 hT2 (cOf y o2 T2 hy2 hT2 hv2),fun hab z hz hz2=>Fout z hz y o2 T2 hyb hy2 hT2 (.inl ⟨hab,hz2⟩)⟩
   ·have hxn:x≠b0:=by rintro rfl;exact hxb (mem hb0)
    rcases key y o2 hy with⟨rfl,e⟩ | ⟨hyb,hy2⟩
    ·rw[hb0m]at hT2;cases hT2
     simp only[AAR,JT hxn];exact⟨fun _ e=>Fout _ hroot2 x _ T' hxb hx2 hT' (.inl ⟨rfl,e⟩),fun _ z hz hz2=>Fout z hz2 x _ T' hxb hx2 hT' (.inl ⟨rfl,hz⟩)⟩
    ·have hyn:y≠b0:=by rintro rfl;exact hyb (mem hb0)
     simp only[JT hxn,JT hyn];exact q.DG x a r T' hx2 hT' y o2 T2 hy2 hT2 hne2
 ·intro x hx hn;refine⟨hn,hS.GK x fun hm=>?_⟩;have:=htg x hm;rw[hn]at this;cases this
end
def TF (t:Tr Value) (l:AW):Tr Value:=Qd id t l
theorem OT {μ:Ae} {t:Tr Value} {n:Nat} {a:BR} (h:Gj μ t n a) (l:AW):Gj μ (TF t l) n a:=by
 refine⟨h.1,fun i=>?_⟩;unfold TF;rcases Jm id t l i with e | e
 ·rw[e];exact .Bv _
 ·rw[e];exact h.2 i
def C6:List B9->Bool
 | []=>true
 | .Ee _ _::_=>false
 | _::r=>C6 r
def iO:FV->FuncId->Option (AW)
 | [],_=>none
 | p::r,f=>bif Nat.beq p.1 f then some p.2 else iO r f
def Ir (ks:FV):Aj->Aj
 | ⟨fn,t,n,todo,ds,r,kd,rd⟩=>match iO ks fn with
  | some l=>⟨fn,TF t l,n,todo,ds,r,kd,rd⟩
  | none=>⟨fn,t,n,todo,ds,r,kd,rd⟩
def QJ (ks:FV):AW->AA->AA
 | [],H=>H
 | b::r,H=>match (QJ ks r H).get b with
  | some (.loop ⟨st,pd,fn,t,n,ps,asg,bd,df⟩)=>match iO ks fn with
   | some l=>(QJ ks r H).put b (.loop ⟨st,pd,fn,TF t l,n,ps,asg,bd,df⟩)
   | none=>QJ ks r H
  | _=>QJ ks r H
def F7 (ks:FV) (bs:AW) (c:BT):BT:=⟨c.fr,c.cs.map (Ir ks),QJ ks bs c.H⟩
section
variable {X:Ctx} {base:Env} {W0:World} {μ:Ae} {W:World} {N:Nat}
theorem OD {ks:FV}:∀(bs:AW) {H:AA},AJ base W0 μ H W->AJ base W0 μ (QJ ks bs H) W
 | [],H,h=>h
 | b::r,H,h=>by
  have h1:=OD r h (ks:=ks);unfold QJ;split
  ·rename_i st pd fn t n ps asg bd df hb;split
   ·refine h1.swap hb (fun T o' _ ho=>?_) rfl rfl rfl (fun _ _ hv=>hv);cases ho with
    | loop _ a R ht hd=>exact .loop T ⟨st,pd,fn,_,n,ps,asg,bd,df⟩ a R (OT ht _) hd
   ·exact h1
  ·exact h1
theorem SY {H H':AA} {g:AW} {f:Aj} {f':Frame} (h:OA X μ H g f f') (hd:C6 f.todo=true):OA X μ H' [] f f':=by
 cases h with
 | plain fn t n tm todo todo' ds ds' r kd rd rd' ht hi hdd hr=>exact .plain _ _ _ _ _ _ _ _ _ _ _ _ ht hi hdd hr
 | drawn=>cases hd
theorem mi {ks:FV} {H H':AA} {g:AW} {f:Aj} {f':Frame} (h:Hh X μ H g f f') (hd:C6 f.todo=true):Hh X μ H' [] (Ir ks f) f':=by
 cases h with
 | plain fn t n tm todo todo' ds ds' r kd rd rd' ht hi hdd hr=>
  unfold Ir;simp only;split
  ·exact .plain _ _ _ _ _ _ _ _ _ _ _ _ (OT ht _) hi hdd hr
  ·exact .plain _ _ _ _ _ _ _ _ _ _ _ _ ht hi hdd hr
 | KA=>cases hd
theorem Rr {ks:FV} {H H':AA} {g:AW} {l:List Aj} {l':List Frame} (h:Dv X μ H g l l') (hd:(l.all fun f=>C6 f.todo)=true):Dv X μ H' [] (l.map (Ir ks)) l':=by
 induction h with
 | nil=>exact .nil
 | cons hf _ ih=>
  simp only[lf,Dg]at hd;exact .cons (g:=[]) (gs:=[]) (mi hf hd.1) (ih hd.2)
theorem ev {ks:FV} {bs:AW} {c:BT} {Φ:Bz} (h1:C6 c.fr.todo=true) (h2:(c.cs.all fun f=>C6 f.todo)=true) (hr:A5 X N (F7 ks bs c) Φ):A5 X N c Φ:=by
 intro base W0 hb hok hplan cs0 μ fr cs W hm;refine hr base W0 hb hok hplan cs0 μ fr cs W ?_;obtain⟨hH,hlaid,g,gs,hfr,hcs,hnd⟩:=hm;exact⟨OD bs hH,hlaid,[],[],SY hfr h1,Rr hcs h2,by simp⟩
end
def Stop.MF (X:Ctx) (ks:FV) (S:Stop) (c:BT):Option BT:=
 match FD X c with
 | some c1=>bif C6 c1.fr.todo&&(c1.cs.all fun f=>C6 f.todo)then
  (bif Nat.ble S.N (F7 ks (S.ids c1) c1).H.next&&(S.ids (F7 ks (S.ids c1) c1)).all (fun b=>Nat.blt b (F7 ks (S.ids c1) c1).H.next)then
   wa S.N (S.Xi++S.ids (F7 ks (S.ids c1) c1)) (S.ids (F7 ks (S.ids c1) c1)) S.live (F7 ks (S.ids c1) c1)else none)else none
 | none=>none
def y0 (X:Ctx) (pf:Pf) (f:FuncId) (ids:AW) (S:Stop) (ks:FV) (Q:Bm) (R:Bz) (n:Nat):Bz:=
 Nat.rec (motive:=fun _=>Bz) (fun _=>False) (fun _ ih c=>match FC X f c with
  | some (v,H)=>Q v ((ids++Au 4 v).map H.get)
  | none=>bif S.here c then(match S.MF X ks c with
   | some c2=>R c2
   | none=>False)
   else HC X pf c ih) n
section
variable {P:Program} {fn:FuncId} {tm:BR} {k:List Item} {ds:List Deferred} {kd:CallKind} {rd:Option Nat} {cs:List Frame} {W:World}
end
section
variable {X:Ctx} {base:Env} {W0:World} {μ:Ae} {H:AA} {W:World}
theorem Hh.parts {g:AW} {f:Aj} {f':Frame} (h:Hh X μ H g f f'):f'.fn=f.fn/\CT μ f.defers f'.defers:=by
 cases h with
 | plain=>rename_i hd _;exact⟨rfl,hd⟩
 | KA=>rename_i hd _;exact⟨rfl,hd⟩
theorem ET.env (h:ET X base W0) {m0:Ae} (hle:base.jK.le m0):ET X ⟨base.K,m0⟩ W0:=by
 refine⟨h.1,?_⟩;intro f F hf;obtain⟨h1,h2⟩:=h.2 f F hf;refine⟨h1,fun μ H W args args' v H' hH hl ha hF=>?_⟩;have hH2:AJ base W0 μ H W:=⟨hH.obj,hH.own,hH.inj,hH.fresh,hH.bound,hH.size,hH.below,hH.out,hH.os,(let ⟨φ,q⟩:=hH.abs;⟨φ,q.rep,q.DG⟩),Ae.le_trans hle hH.le,hH.grow⟩;refine(h2 μ H W args args' v H' hH2 hl ha hF).mono fun e W' ⟨v',μ',a,b,c,d⟩=>⟨v',μ',a,?_,c,d⟩
 exact⟨b.obj,b.own,b.inj,b.fresh,b.bound,b.size,b.below,b.out,b.os,(let ⟨φ,q⟩:=b.abs;⟨φ,q.rep,q.DG⟩),Ae.le_trans hH.le d.le,b.grow⟩
theorem AJ.env (hH:AJ base W0 μ H W) {m0:Ae} (hle:m0.le μ):AJ ⟨base.K,m0⟩ W0 μ H W:=
 ⟨hH.obj,hH.own,hH.inj,hH.fresh,hH.bound,hH.size,hH.below,hH.out,hH.os,(let ⟨φ,q⟩:=hH.abs;⟨φ,q.rep,q.DG⟩),hle,hH.grow⟩
end
theorem lv {laid:Co} {N:Nat} {bs:AW} {nx k b:Nat} (h:b < N):HP laid N bs nx k b=Mx laid N b:=KB h
theorem mo {laid:Co} {N:Nat} {bs:AW} {nx k b:Nat} (h:N<=b) (h2:b < N+bs.length):HP laid N bs nx k b=bs[b - N]?:=by
 unfold HP;rw[FX h,jY (by omega)]
theorem nU {laid:Co} {N:Nat} {bs:AW} {nx k b:Nat} (h:N+bs.length<=b) (h2:b < N+bs.length+k):HP laid N bs nx k b=some (nx+(b - (N+bs.length))):=by
 unfold HP;rw[FX (by omega),lB (by omega),Sy,AAf (by omega)];simp only[dH,C5];omega
theorem BF {P:Program} {laid:Co} {fs:List (FuncId × DO)} (hfs:CO P laid fs) (hm:P.follows .mixedOrders=true) {f:FuncId} {n N:Nat} (he:entry P f=some (n,A9 P f [])) (hN:(laid.all fun p=>Nat.blt p.1 N)=true)
 {muts:List Bool} {G:AL->BN->GT} (hG:∀argsc objs x,(G argsc objs).run=some x->(∀(j:Nat) (o:AP),objs[j]? = some o->F6 muts j=true->o.ro=false)->
  argsc.length<=n/\Ak (Bp P laid fs) (N+objs.length) (fun b=>N<=b/\b < N+objs.length) f (fun v Hf=>Db laid N objs.length muts x v Hf) (Em f (CM 0 argsc .leaf) n (A9 P f []) (DH ⟨.leaf,N⟩ (EH muts 0 objs)))):
 CY P laid f (Ai laid N muts G):=by
 refine⟨⟨n,_,he⟩,?_⟩;intro base W0 μ H W args args' v H' hW hH hl ha hF;unfold Ai at hF;generalize hbs:Cr H N 200 (args.flatMap (Au 4)) []=bs at hF;have hreach:=Sj hH (N:=N) 200 (args.flatMap (Au 4)) [] (FJ ha) ⟨dG,fun b hb=>by cases hb⟩;rw[hbs]at hreach;obtain⟨hnd,hbs2⟩:=hreach;split at hF
 rotate_left
 ·cases hF
 rename_i argsc objs h1 h2;cases hmu:Iq muts H 0 bs
 ·simp only[hmu,EB]at hF;cases hF
 simp only[hmu,C8]at hF;split at hF
 rotate_left
 ·cases hF
 rename_i x hx;unfold US at hF;split at hF
 rotate_left
 ·cases hF
 rename_i va Hb e1 e2;split at hF
 rotate_left
 ·cases hF
 rename_i H2 e3;cases hF
 obtain⟨ol,oget⟩:=WG h2;obtain⟨n1,n2,n3,n4⟩:=U2 e3;obtain⟨b1,b2,b3,b4⟩:=Sx e2 hnd;have hbsAt:∀(j b:Nat),bs[j]? = some b->N<=b/\∃T,μ b=some T:=fun j b hb=>hbs2 b (cA hb)
 have hro:∀(j:Nat) (o:AP),objs[j]? = some o->F6 muts j=true->o.ro=false:=by
  intro j o ho hmj;have hj:j < bs.length:=by
   rcases U1 j objs.length with h | h
   ·omega
   ·rw[T6 h]at ho;cases ho
  obtain⟨p,p1,q1,q2,q3⟩:=oget j bs[j] (Jj hj);obtain⟨p',r1,r2⟩:=Ru hmu j bs[j] (Jj hj) (by rw[RP];exact hmj);rw[q1]at r1;cases r1
  rw[ho]at q3;cases q3
  rw[(EO q2).1];exact r2
 obtain⟨g1,g2⟩:=hG argsc objs x hx hro;have hout:∀b i,GV laid N bs b=some i->(b < N/\laid.any (fun p=>Nat.beq b p.1)=true/\i=b)∨(N<=b/\bs[b - N]? = some i):=by
  intro b i hb;rcases U1 b N with h | h
  ·rw[KB h]at hb;obtain⟨rfl,_,h3⟩:=Q9 hb;exact .inl ⟨h,h3,rfl⟩
  ·rw[FX h]at hb;exact .inr ⟨h,hb⟩
 have hdomb:∀b i,GV laid N bs b=some i->∃T,μ i=some T:=by
  intro b i hb;rcases hout b i hb with⟨_,h4,rfl⟩ | ⟨_,h4⟩
  ·obtain⟨T,h3,_⟩:=hl i h4;exact⟨T,h3⟩
  ·exact(hbsAt _ _ h4).2
 have hinj:∀b1 b2 i,GV laid N bs b1=some i->GV laid N bs b2=some i->b1=b2:=by
  intro c1 c2 i q1 q2;rcases hout c1 i q1 with⟨a1,_,a3⟩ | ⟨a1,a2⟩<;>rcases hout c2 i q2 with⟨d1,_,d3⟩ | ⟨d1,d2⟩
  ·omega
  ·have:=(hbsAt _ _ d2).1;omega
  ·have:=(hbsAt _ _ a2).1;omega
  ·have:=cv hnd a2 d2;omega
 have hiN:∀b i,GV laid N bs b=some i->i < H.next:=fun b i hb=>let ⟨_,hT⟩:=hdomb b i hb;hH.MO hT
 have hHn:(DH ⟨.leaf,N⟩ (EH muts 0 objs)).next=N+bs.length:=by rw[LC,NU,ol]
 have hlt:∀b i,GV laid N bs b=some i->b < (DH ⟨.leaf,N⟩ (EH muts 0 objs)).next:=by
  intro b i hb;rw[hHn];rcases hout b i hb with⟨h4,_,_⟩ | ⟨h4,h5⟩
  ·omega
  ·have:b - N < bs.length:=by
    rcases U1 (b - N) bs.length with h | h
    ·exact h
    ·rw[T6 h]at h5;cases h5
   omega
 have hHg:∀b o,(DH ⟨.leaf,N⟩ (EH muts 0 objs)).get b=some o->N<=b/\∃o0,objs[b - N]? = some o0/\o=(bif F6 muts (b - N)then o0 else Km o0):=by
  intro b o hb;rw[Fc]at hb;simp only at hb
  by_cases h4:b < N
  ·rw[MB h4]at hb;cases hb
  ·rw[JT h4,OU,RP]at hb;cases hq:objs[b - N]? with
   | none=>rw[hq]at hb;cases hb
   | some o0=>rw[hq]at hb;simp only[dH,C5]at hb;exact⟨by omega,o0,rfl,hb.symm⟩
 have hroV:∀b o,(DH ⟨.leaf,N⟩ (EH muts 0 objs)).get b=some o->o.ro=false->F6 muts (b - N)=true:=by
  intro b o hb hr;obtain⟨h4,o0,h5,rfl⟩:=hHg b o hb;cases hmm:F6 muts (b - N)
  ·rw[hmm]at hr;simp only[EB]at hr;have hj:b - N < bs.length:=by
    rcases U1 (b - N) objs.length with h | h
    ·omega
    ·rw[T6 h]at h5;cases h5
   obtain⟨p,p1,q1,q2,q3⟩:=oget (b - N) _ (Jj hj);rw[h5]at q3;cases q3
   have:=(N3 (VU (fun _ _ h=>YP h) q2)).2;rw[hr]at this;cases this
  ·rfl
 refine vr (X:=Bp P laid fs) (fun b W0 hW=>hfs.IN b W0 hW) (Hl hm rfl) hW hH hl he (Hc:=DH ⟨.leaf,N⟩ (EH muts 0 objs)) (argsc:=argsc) (ρ:=GV laid N bs) g1 (HD (Ps (fun _ _ h=>YP h) 6) _ _ h1) ha hlt hdomb hinj
  (by rw[n1,b1];omega) (fun g hg=>?_) (fun b o hb=>?_) (fun i hi hno=>?_) (fun i hi=>?_) ?_
 ·have hg:laid.any (fun p=>Nat.beq g p.1)=true:=hg;have hgN:g < N:=by
   obtain⟨p,hp1,hp2⟩:=List.any_eq_true.1 hg;have:=List.all_eq_true.1 hN p hp1;rw[DN hp2];exact BE this
  rw[KB hgN];unfold Mx;rw[show Nat.blt g N=true from Ez hgN,hg];rfl
 ·obtain⟨h4,o0,h5,rfl⟩:=hHg b o hb;have hj:b - N < bs.length:=by
   rcases U1 (b - N) objs.length with h | h
   ·omega
   ·rw[T6 h]at h5;cases h5
  obtain⟨p,p1,q1,q2,q3⟩:=oget (b - N) _ (Jj hj);rw[h5]at q3;cases q3
  have hinv:=VU (τ:=GV laid N bs) (fun _ _ h=>YP h) q2;refine⟨bs[b - N],p,by rw[FX h4];exact Jj hj,q1,?_⟩;cases hmm:F6 muts (b - N)
  ·exact .inr ⟨(N3 hinv).2,(N3 hinv).1⟩
  ·exact .inl hinv
 ·rw[n2 i (by rw[b1];exact hi)]
  by_cases hi2:i∈bs
  ·obtain⟨j,hj,hje⟩:=AAU hi2;have hjb:bs[j]? = some i:=by rw[Jj hj,hje]
   refine b3 j i hjb ?_;cases hmm:F6 muts (0+j)
   ·rfl
   ·exfalso;rw[RP]at hmm;obtain⟨p,p1,q1,q2,q3⟩:=oget j i hjb;have hg:(DH ⟨.leaf,N⟩ (EH muts 0 objs)).get (N+j)=some p1:=by
     rw[Fc];simp only;rw[JT (by omega),OU,RP,show N+j - N=j by omega,q3];simp only[dH,hmm,C8]
    exact hno (N+j) p1 hg (hro j p1 q3 hmm) (by rw[FX (by omega),show N+j - N=j by omega];exact hjb)
  ·exact b2 i hi2
 ·rw[n1,b1]at hi;rw[n4 i (by rw[b1];exact hi)];have hge:H.next<=i:=by omega
  have hnb:i∉bs:=by
   intro hb;obtain⟨_,T,hT⟩:=hbs2 i hb;have:=hH.MO hT;omega
  rw[b2 i hnb];exact(hH.fresh i hge).1
 ·rw[hHn,<-ol];refine(g2.mono fun vc Hf ⟨ns,m1,m2,m3,m4,m5,m6⟩=>?_).sub fun b hb=>⟨bs[b - N]'(by omega),by rw[FX hb.1];exact Jj _⟩
  have hcomp:∀c r,Db.J1 laid N objs.length ns c=some r->(if r < N+objs.length then GV laid N bs r else(posOf r ns).map (H.next+·))=HP laid N bs H.next x.news.length c:=by
   intro c r hc;unfold Db.J1 at hc
   by_cases c1:c < N
   ·rw[MB c1]at hc;obtain⟨rfl,_,_⟩:=Q9 hc;rw[MB (by omega),KB c1,lv c1]
   ·rw[JT c1]at hc
    by_cases c2:c < N+objs.length
    ·rw[MB c2]at hc;cases hc
     rw[MB c2,FX (by omega),mo (by omega) (by omega)]
    ·rw[JT c2]at hc;have hj:c - (N+objs.length) < ns.length:=by
      rcases U1 (c - (N+objs.length)) ns.length with h | h
      ·exact h
      ·rw[T6 h]at hc;cases hc
     have hge:=m2 r (cA hc);rw[JT (by omega),Kh m1 hc,nU (by omega) (by omega),ol];rfl
  refine⟨fun b=>if b < N+objs.length then GV laid N bs b else(posOf b ns).map (H.next+·),?_,?_,?_,?_,?_⟩
  ·intro c1 c2 i q1 q2
   by_cases d1:c1 < N+objs.length<;>by_cases d2:c2 < N+objs.length
   ·simp only[d1,d2,AAR]at q1 q2;exact hinj c1 c2 i q1 q2
   ·simp only[d1,d2,AAR,ABC]at q1 q2;obtain⟨j,_,rfl⟩:=Option.map_eq_some_iff.1 q2;have:=hiN _ _ q1;omega
   ·simp only[d1,d2,AAR,ABC]at q1 q2;obtain⟨j,_,rfl⟩:=Option.map_eq_some_iff.1 q1;have:=hiN _ _ q2;omega
   ·simp only[d1,d2,ABC]at q1 q2;obtain⟨j1,w1,w2⟩:=Option.map_eq_some_iff.1 q1;obtain⟨j2,w3,w4⟩:=Option.map_eq_some_iff.1 q2;have:j1=j2:=by omega
    subst this;have:=NL w1;rw[NL w3]at this;cases this;rfl
  ·intro b hb;rw[hHn,<-ol]at hb;simp only[hb,AAR]
  ·intro b i hb hge;rw[hHn,<-ol]at hge;simp only[show ¬b < N+objs.length by omega,ABC]at hb;obtain⟨j,w1,rfl⟩:=Option.map_eq_some_iff.1 hb;have:=NL w1;have hj:j < ns.length:=by
    rcases U1 j ns.length with h | h
    ·exact h
    ·rw[T6 h]at this;cases this
   rw[n1,b1];omega
  ·intro i o hi hc
   by_cases hge:H.next<=i
   ·have hiu:i < H.next+x.news.length:=by
     rcases U1 i (H.next+x.news.length)with h | h
     ·exact h
     ·rw[n4 i (by rw[b1];exact h)]at hi;have hnb:i∉bs:=by
       intro hb;obtain⟨_,T,hT⟩:=hbs2 i hb;have:=hH.MO hT;omega
      rw[b2 i hnb,(hH.fresh i hge).1]at hi;cases hi
    obtain⟨o0,w1,w2,w3⟩:=n3 i o (by rw[b1];exact hge) (by rw[b1];exact hiu) hi;rw[b1]at w1;have hj:i - H.next < ns.length:=by omega
    have hb:=Jj hj;obtain⟨o1,y1,y2⟩:=m5 (i - H.next) _ o0 hb w1;have hge2:=m2 _ (cA hb);have hro1:BV (fun b=>if b < N+objs.length then GV laid N bs b else(posOf b ns).map (H.next+·)) o1=some o:=by
     rw[SU (υ:=HP laid N bs H.next x.news.length) hcomp y1];exact w2
    refine⟨ns[i - H.next],o1,?_,y2,hro1,by rw[<-(EO hro1).1];exact w3⟩;simp only[show ¬ns[i - H.next] < N+objs.length by omega,ABC];rw[Kh m1 hb];show some (H.next+(i - H.next))=some i
    congr 1;omega
   ·rcases hc with hc | ⟨b,o0,q1,q2,q3⟩
    ·exact absurd hc hge
    ·have hmm:=hroV b o0 q1 q2;obtain⟨q4,p0,q5,q6⟩:=hHg b o0 q1;rw[FX q4]at q3;rw[n2 i (by rw[b1];omega)]at hi;obtain⟨o2,w1,w2,w3⟩:=b4 (b - N) i o q3 (by rw[RP];exact hmm) hi;have hj:b - N < objs.length:=by
      rcases U1 (b - N) objs.length with h | h
      ·exact h
      ·rw[T6 h]at q5;cases q5
     obtain⟨o1,y1,y2⟩:=m6 (b - N) o2 hj hmm w1;rw[show N+(b - N)=b by omega]at y2;have hro1:BV (fun b=>if b < N+objs.length then GV laid N bs b else(posOf b ns).map (H.next+·)) o1=some o:=by
      rw[SU (υ:=HP laid N bs H.next x.news.length) hcomp y1];exact w2
     refine⟨b,o1,?_,y2,hro1,by rw[<-(EO hro1).1];exact w3⟩;simp only[show b < N+objs.length by omega,AAR];rw[FX q4];exact q3
  ·rw[show Dr _ vc=Dr (HP laid N bs H.next x.news.length) x.v from Md hcomp 6 _ _ m4];exact e1
def SG:AW->AA->AA
 | [],H=>H
 | b::r,H=>SG r (H.del b)
theorem TE:∀(r:AW) (H:AA),(SG r H).next=H.next
 | [],_=>rfl
 | b::r,H=>TE r (H.del b)
theorem Qq:∀(r:AW) (H:AA) (x:Nat),(SG r H).get x=if x∈r then none else H.get x
 | [],H,x=>by simp[SG]
 | b::r,H,x=>by
  rw[SG,Qq r (H.del b) x,AA.BU]
  by_cases h1:x∈r
  ·simp[h1]
  ·by_cases h2:x=b
   ·simp[h2]
   ·simp[h1,h2]
def Le (s:Pk):AW->AA->AA
 | [],H=>H
 | b::r,H=>(SG r H).put b (.abs (.pack s) false)
theorem E2 {s:Pk} {bs:AW} {H:AA} (hnd:bs.Nodup):vM H s bs (Le s bs H):=by
 cases bs with
 | nil=>exact⟨rfl,fun b h=>(by cases h),fun i b _ h=>(by cases h),fun x _=>rfl⟩
 | cons b r=>
  have hbr:b∉r:=(List.nodup_cons.1 hnd).1;refine⟨?_,?_,?_,?_⟩
  ·show(SG r H).next=H.next;exact TE r H
  ·intro b' hb';cases hb'
   show((SG r H).put b _).get b=_;rw[AA.AU,MB rfl]
  ·intro i b' hi hb';cases i with
   | zero=>omega
   | succ i=>
    have hm:b'∈r:=cA (i:=i) hb';show((SG r H).put b _).get b'=_;rw[AA.AU,JT (by rintro rfl;exact hbr hm),Qq,MB hm]
  ·intro x hx;simp only[Ul,AAq]at hx;show((SG r H).put b _).get x=_;rw[AA.AU,JT hx.1,Qq,JT hx.2]
def IK:AP->Nat->Prop
 | .cells cs _ _,c=>c∈cs.flatMap (Au 4)
 | .vec k l _,c=>c∈(Ag k l).flatMap (Au 4)
 | _,_=>False
inductive JW (H:AA) (rs:AW):Nat->Prop where
 | here {b:Nat} (h:b∈rs):JW H rs b
 | next {b c:Nat} {o:AP} (hb:JW H rs b) (ho:H.get b=some o) (hc:IK o c):JW H rs c
theorem JW.bN {base:Env} {W0 W:World} {μ:Ae} {H:AA} (hH:AJ base W0 μ H W) {rs:AW} (hrs:∀b∈rs,∃T,μ b=some T) {c:Nat} (h:JW H rs c):∃T,μ c=some T:=by
 induction h with
 | here h=>exact hrs _ h
 | next hb ho hc ih=>
  rename_i b c o;obtain⟨T,hT⟩:=ih;obtain⟨o',_,hr⟩:=hH.obj b _ ho T hT;cases o with
  | cells cs e ro=>
   cases hr with
   | cells _ _ _ arr t lo hi he hcl hr hf=>exact FJ hcl c hc
  | vec k l ro=>
   cases hr with
   | vec _ _ _ _ hq=>
    cases hq with
    | cells _ _ _ arr t lo hi he hcl hr hf=>exact FJ hcl c hc
   | Du _ _ _ _ _ _=>simp[IK,Ag]at hc
  | _=>exact hc.elim
inductive Ha (D:Nat->Prop) (v:Value):AA->AA->Prop where
 | refl (H:AA):Ha D v H H
 | step {H H2:AA} (s:Pk) (objs:BN) (bs rs:AW) (hr:Bx s objs) (hne:objs≠[]) (hlen:bs.length=objs.length) (hnd:bs.Nodup) (hrs:∀b∈rs,b∈Au 4 v∨D b)
  (hreach:∀b∈bs,b∈Cr H 0 200 rs []) (hobj:∀(i b:Nat) (o:AP),bs[i]? = some b->objs[i]? = some o->∃o1,H.get b=some o1/\o1.ro=false/\o1.Kg=true/\BV (RQ bs (C3 s)) o=some o1) (hroot:∀o T,objs[0]? = some o->¬o.void T)
  (k:Ha D v (Le s bs H) H2):Ha D v H H2
 | p8 {H H2:AA} (s:Pk) (objs:BN) (bs rs:AW) (hr:Bx s objs) (hne:objs≠[]) (hlen:bs.length=objs.length) (hnd:bs.Nodup) (hrs:∀b∈rs,b∈Au 4 v∨D b)
  (hreach:∀b∈bs,JW H rs b) (hobj:∀(i b:Nat) (o:AP),bs[i]? = some b->objs[i]? = some o->∃o1,H.get b=some o1/\o1.ro=false/\o1.Kg=true/\BV (RQ bs (C3 s)) o=some o1) (hroot:∀o T,objs[0]? = some o->¬o.void T)
  (k:Ha D v (Le s bs H) H2):Ha D v H H2
theorem Ha.ok {D:Nat->Prop} {v:Value} {H H2:AA} (h:Ha D v H H2) {base:Env} {W0 W:World} {μ:Ae} {v':Value} (hD:∀b,D b->∃T,base.jK b=some T) (hv:AH μ v v'):AJ base W0 μ H W->AJ base W0 μ H2 W:=by
 induction h with
 | refl H=>exact fun h=>h
 | step s objs bs rs hr hne hlen hnd hrs hreach hobj hroot k ih=>
  intro hH;refine ih (hH.shut hr hnd hlen hne (fun b hb=>?_) hobj (E2 hnd) hroot).1;have hr2:=Sj hH (N:=0) 200 rs [] (fun b hb=>?_) ⟨dG,fun b hb=>by cases hb⟩
  ·exact(hr2.2 b (hreach b hb)).2
  ·rcases hrs b hb with hb | hb
   ·exact FJ (Am.cons hv .nil) b (by simpa using hb)
   ·obtain⟨T,hT⟩:=hD b hb;exact⟨T,hH.le b T hT⟩
 | p8 s objs bs rs hr hne hlen hnd hrs hreach hobj hroot k ih=>
  intro hH;refine ih (hH.shut hr hnd hlen hne (fun b hb=>JW.bN hH (fun c hc=>?_) (hreach b hb)) hobj (E2 hnd) hroot).1;rcases hrs c hc with hc | hc
  ·exact FJ (Am.cons hv .nil) c (by simpa using hc)
  ·obtain⟨T,hT⟩:=hD c hc;exact⟨T,hH.le c T hT⟩
section
variable {X:Ctx} {N:Nat} {D:Nat->Prop} {f:FuncId} {Q Q':Ih}
theorem Ak.opened {c:BT} {b:Nat} {s:Pk} {ro:Bool} (hD:D b) (hb:c.H.get b=some (.abs (.pack s) ro)) (hp:∀ops p k,c.fr.todo≠ .Ee ops p::k)
 (h:∀objs,Bx s objs->∃H',FB c.H b ro objs H' (C3 s)/\Ak X N D f Q ⟨c.fr,c.cs,H'⟩):Ak X N D f Q c:=by
 intro base W0 hb0 hDm hok hplan cs0 μ fr cs W hm;obtain⟨T,hT⟩:=hDm b hD;obtain⟨hH,hlaid,g,gs,hfr,hcs,hnd⟩:=hm;obtain⟨objs,hr,ho⟩:=hH.opened hb (hH.le b T hT);obtain⟨H',hO,hrun⟩:=h objs hr;obtain⟨μ',hH',hE,_⟩:=ho H' hO;refine hrun base W0 hb0 hDm hok hplan cs0 μ' fr cs W ⟨hH',hlaid.mono hE.le,g,gs,?_,hcs.mono (hE.keeps _),hnd⟩;obtain⟨f0,cs1,H1⟩:=c;cases hfr with
 | plain fn t n tm todo todo' ds ds' r kd rd rd' ht hi hd hr=>exact .plain fn t n tm todo todo' ds ds' r kd rd rd' (ht.mono hE.le) (hi.mono hE.le) (hd.mono hE.le) (hr.mono hE.le)
 | drawn fn t n tm ops BJ idx D G k k' ds ds' kd rd rd' hD hk hd hr=>exact absurd rfl (hp ops BJ k)
theorem Ak.known {c:BT} {N2:Nat} {D2:Nat->Prop} (h:Ak X N2 D2 f Q c) (hN:c.H.next<=N2) (hD2:∀b,D2 b->∃rs,(∀r∈rs,D r)/\JW c.H rs b):Ak X N D f Q c:=by
 intro base W0 hb0 hDm hok hplan cs0 μ fr cs W hm;have hH:=hm.heap;obtain⟨c',v,H,v1,H1,h1,h3,μ1,fr1,cs1,W1,s1,m1,h2⟩:=h ⟨base.K,μ⟩ W0 (fun b T hT=>nI (hH.MO hT) hN) (fun b hb=>by
  obtain⟨rs,k1,k2⟩:=hD2 b hb;exact k2.bN hH fun r hr=>by obtain⟨T,hT⟩:=hDm r (k1 r hr);exact⟨T,hH.le r T hT⟩) (hok.env hH.le) hplan cs0 μ fr cs W ⟨hH.env (Ae.le_refl _),hm.laid,hm.Xx⟩
 have up:∀{ν:Ae} {H:AA} {W:World},AJ ⟨base.K,μ⟩ W0 ν H W->AJ base W0 ν H W:=fun g=>⟨g.obj,g.own,g.inj,g.fresh,g.bound,g.size,g.below,g.out,g.os,(let ⟨φ,q⟩:=g.abs;⟨φ,q.rep,q.DG⟩),Ae.le_trans hH.le g.le,g.grow⟩
 refine⟨c',v,H,v1,H1,h1,h3,μ1,fr1,cs1,W1,s1,⟨up m1.heap,m1.laid,m1.Xx⟩,fun v' hv hH2=>?_⟩;obtain⟨μ2,g0,g1,g2⟩:=h2 v' hv (hH2.env m1.heap.le);exact⟨μ2,g0,up g1,g2⟩
theorem Ak.shut {c:BT} (h:Ak X N D f Q c) (hq:∀v H,Q v H->∃H2,Ha D v H H2/\Q' v H2):Ak X N D f Q' c:=by
 intro base W0 hb0 hDm hok hplan cs0 μ fr cs W hm;obtain⟨c',v,H,v1,H1,h1,h3,μ1,fr1,cs1,W1,s1,m1,h2⟩:=h base W0 hb0 hDm hok hplan cs0 μ fr cs W hm;obtain⟨H2,k1,k2⟩:=hq v1 H1 h3;refine⟨c',v,H,v1,H2,h1,k2,μ1,fr1,cs1,W1,s1,m1,fun v' hv hH=>?_⟩;obtain⟨μ2,g0,g1,g2⟩:=h2 v' hv hH;exact⟨μ2,g0,k1.ok hDm g2 g1,g2⟩
theorem Ak.tell {c:BT} (h:Ak X N D f Q c) (hq:∀v H,Q v H->∃v2 H2,(∀(base:Env) (W0:World) (μ:Ae) (W:World) (v':Value),(∀b,D b->∃T,μ b=some T)->AH μ v v'->AJ base W0 μ H W->∃μ2,μ.le μ2/\AJ base W0 μ2 H2 W/\AH μ2 v2 v')/\Q' v2 H2):Ak X N D f Q' c:=by
 intro base W0 hb0 hDm hok hplan cs0 μ fr cs W hm;obtain⟨c',v,H,v1,H1,h1,h3,μ1,fr1,cs1,W1,s1,m1,h2⟩:=h base W0 hb0 hDm hok hplan cs0 μ fr cs W hm;obtain⟨v2,H2,k1,k2⟩:=hq v1 H1 h3;refine⟨c',v,H,v2,H2,h1,k2,μ1,fr1,cs1,W1,s1,m1,fun v' hv hH=>?_⟩;obtain⟨μ2,g0,g1,g2⟩:=h2 v' hv hH;obtain⟨μ3,f0,f1,f2⟩:=k1 base W0 μ2 W1 v' (fun b hb=>by obtain⟨T,hT⟩:=hDm b hb;exact⟨T,g1.le b T hT⟩) g2 g1;exact⟨μ3,Ae.le_trans g0 f0,f1,f2⟩
theorem Ak.told {c:BT} (h:Ak X N D f Q c) (hq:∀v H,Q v H->∃H2,(∀(base:Env) (W0:World) (μ:Ae) (W:World),AJ base W0 μ H W->AJ base W0 μ H2 W)/\Q' v H2):Ak X N D f Q' c:=
 h.tell fun v H q=>let ⟨H2,k1,k2⟩:=hq v H q;⟨v,H2,fun base W0 μ W _ _ hv hH=>⟨μ,Ae.le_refl _,k1 base W0 μ W hH,hv⟩,k2⟩
theorem Ak.row {c:BT} {k:EK} (h:Ak X N D f Q c) (hq:∀v H,Q v H->∃b n l,v= .slice (some ⟨b,0,none⟩) n (Aa+n)/\H.get b=some (.cells (Ag k l) k.length false)/\Q' (.slice (some ⟨b,0,some 0⟩) n Aa) (H.put b (.vec k l false))) (hk0:k.length≠0:=by decide):Ak X N D f Q' c:=by
 intro base W0 hb0 hDm hok hplan cs0 μ fr cs W hm;obtain⟨c',v,H,v1,H1,h1,h3,μ1,fr1,cs1,W1,s1,m1,h2⟩:=h base W0 hb0 hDm hok hplan cs0 μ fr cs W hm;obtain⟨b,n,l,rfl,hg,k2⟩:=hq v1 H1 h3;refine⟨c',v,H,_,_,h1,k2,μ1,fr1,cs1,W1,s1,m1,fun v' hv hH=>?_⟩;obtain⟨μ2,g0,g1,g2⟩:=h2 v' hv hH;have g3:=g1.JF hg;exact⟨μ2,g0,g3,Wb (j:=0) hk0 (GO _) (fun T hT=>g3.elem (by rw[AA.AU,MB rfl]) hT) (by rw[ABp];exact MK g2)⟩
end
end Go.AD
namespace Go.AD
end Go.AD
namespace Go.AD
def D7 (H:AA):BN->AA
 | []=>H
 | o::r=>D7 (H.alloc o) r
theorem Kb:∀(l:BN) (H:AA),(D7 H l).next=H.next+l.length
 | [],_=>rfl
 | o::r,H=>by rw[D7,Kb r];show H.next+1+r.length=_;simp;omega
theorem Ht:∀(l:BN) (H:AA) (x:Nat),(D7 H l).get x=if H.next<=x then(match l[x - H.next]? with | some o=>some o | none=>H.get x)else H.get x
 | [],H,x=>by simp[D7]
 | o::r,H,x=>by
  rw[D7,Ht r];show(if H.next+1<=x then _ else _)=_
  by_cases h1:H.next+1<=x
  ·rw[MB h1,MB (by omega)];show(match r[x - (H.next+1)]? with | some o=>some o | none=>(H.alloc o).get x)=_;have e:x - H.next=(x - (H.next+1))+1:=by omega
   rw[e,oA];have e2:(H.alloc o).get x=H.get x:=by rw[AA.AM,JT (by omega)]
   rw[e2]
  ·rw[JT h1,AA.AM]
   by_cases h2:x=H.next
   ·subst h2;simp
   ·rw[JT h2,JT (by omega)]
theorem dP {H:AA} {b:Nat} {ro:Bool} {o o1:AP} {ps ps1:BN} (hlt:b < H.next) (hf:∀x,H.next<=x->H.get x=none) (hl:ps1.length=ps.length) (h0:BV (He b H.next (ps.length+1)) (UC ro o)=some o1)
 (hps:∀(i:Nat) (p:AP),ps[i]? = some p->∃p1,ps1[i]? = some p1/\BV (He b H.next (ps.length+1)) (UC ro p)=some p1):FB H b ro (o::ps) (D7 (H.put b o1) ps1):=by
 have hnx:(H.put b o1).next=H.next:=rfl;refine⟨by rw[Kb,hnx,hl];simp,fun x hx hx2=>?_,fun x hx=>?_,fun i p hp=>?_⟩
 ·rw[Ht,hnx,JT (by omega),AA.AU,JT hx]
 ·rw[Kb,hnx]at hx;rw[Ht,hnx,MB (by omega),T6 (by omega)];show(H.put b o1).get x=none;rw[AA.AU,JT (by omega)];exact hf x (by omega)
 ·cases i with
  | zero=>
   cases hp
   refine⟨o1,h0,?_⟩;show(D7 (H.put b o1) ps1).get b=_;rw[Ht,hnx,JT (by omega),AA.AU,MB rfl]
  | succ i=>
   obtain⟨p1,h1,h2⟩:=hps i p hp;refine⟨p1,h2,?_⟩;have e:CR b H.next (i+1)=H.next+i:=by unfold CR;rw[JT (by omega)];rfl
   rw[e,Ht,hnx,MB (by omega),show H.next+i - H.next=i by omega,h1]
def y3 (X:Ctx) (pf:Pf) (f:FuncId) (ids:AW) (S S2:Stop) (ks:FV) (Q:Bm) (R R2:Bz) (n:Nat):Bz:=
 Nat.rec (motive:=fun _=>Bz) (fun _=>False) (fun _ ih c=>match FC X f c with
  | some (v,H)=>Q v ((ids++Au 4 v).map H.get)
  | none=>bif S.here c then(match S.MF X ks c with
   | some c2=>R c2
   | none=>False)
   else bif S2.here c then(match S2.MF X ks c with
    | some c2=>R2 c2
    | none=>False)
   else HC X pf c ih) n
def UX (b:Nat) (c:BT):Bool:=match c.fr.todo with
 | _:: .inBlock k::_=>Nat.beq k b
 | _=>false
def y5 (X:Ctx) (pf:Pf) (f:FuncId) (ids:AW) (S:Stop) (b:Nat) (S2:Stop) (b2:Nat) (ks:FV) (Q:Bm) (R R2:Bz) (n:Nat):Bz:=
 Nat.rec (motive:=fun _=>Bz) (fun _=>False) (fun _ ih c=>match FC X f c with
  | some (v,H)=>Q v ((ids++Au 4 v).map H.get)
  | none=>bif S.here c&&UX b c then(match S.MF X ks c with
   | some c2=>R c2
   | none=>False)
   else bif S2.here c&&UX b2 c then(match S2.MF X ks c with
    | some c2=>R2 c2
    | none=>False)
   else HC X pf c ih) n
theorem Nb {X:Ctx} {S:Stop} {ks:FV} {M:Nat} (hM:M<=S.N) (hl:(X.laid.all fun p=>Nat.blt p.1 S.N)=true) {c c2:BT} {Φ:Bz} (hc:S.MF X ks c=some c2) (h:A5 X M c2 Φ):A5 X M c Φ:=by
 unfold Stop.MF at hc;split at hc
 ·rename_i c1 h1;cases hd:(C6 c1.fr.todo&&(c1.cs.all fun f=>C6 f.todo))
  ·simp only[hd,EB]at hc;cases hc
  ·simp only[hd,C8]at hc;simp only[Dg]at hd;cases hb:(Nat.ble S.N (F7 ks (S.ids c1) c1).H.next&&(S.ids (F7 ks (S.ids c1) c1)).all (fun b=>Nat.blt b (F7 ks (S.ids c1) c1).H.next))
   ·simp only[hb,EB]at hc;cases hc
   ·simp only[hb,C8]at hc;have hr:=XJ (X:=X) hM hl hc h;exact A5.bind (Reach.Uf ((R6.step h1).reach (Φ:=fun c'=>c'=c1) rfl)) fun c' e=>e ▸ ev hd.1 hd.2 hr
 ·cases hc
def VL (X:Ctx) (c:BT):Option (Bool × BT × BT):=
 match c with
 | ⟨⟨fn,t,n,.Kr ops (o::l)::k,ds,false,kd,rd⟩,cs,H⟩=>
  match o.op with
  | .binOp .eql ty x y _=>match Bt X t x,Bt X t y,X.P.underlying ty with
   | .slice (some ⟨_,_,some _⟩) m _,.slice none _ _,some (.slice _)=>match Cw ops o t,CG ⟨fn,t,n,.Kr ops (o::l)::k,ds,false,kd,rd⟩ (.bool true),CG ⟨fn,t,n,.Kr ops (o::l)::k,ds,false,kd,rd⟩ (.bool false)with
    | some true,some ft,some ff=>some (Nat.blt 0 m,⟨ft,cs,H⟩,⟨ff,cs,H⟩)
    | _,_,_=>none
   | _,_,_=>none
  | _=>none
 | _=>none
theorem pH {P:Program} {s:Sem Value} {v:Value} {W:World} (h:s.run P W= .ok v W):(do pure (Next.value (←s)):Sem Next).run P W= .ok (.value v) W:=by simp[h]
theorem GZ {X:Ctx} {c ct cf:BT} {b:Bool} {Φ:Bz} (h:VL X c=some (b,ct,cf)) (ht:b=false->Φ ct) (hf:Φ cf):Reach X c Φ:=by
 unfold VL at h;split at h
 rotate_left
 ·cases h
 rename_i fn t n ops o l k ds kd rd cs H;split at h
 rotate_left
 ·cases h
 rename_i ty x y yt ho;split at h
 rotate_left
 ·cases h
 rename_i bb off j m cap nl nc e hx hy hu;split at h
 rotate_left
 ·cases h
 rename_i ft ff hw hft hff;cases h
 intro base W0 hok hplan cs0 μ fr cs' W hm;obtain⟨hH,hlaid,g,gs,hfr,hcs,hnd⟩:=hm;cases hfr with
 | plain fn t n tm todo todo' ds ds' r kd rd rd' htm hi hd hrd=>
  cases hi with
  | @cons it it' k1 k1' h1 hk=>
   cases h1 with
   | Kr ops l1 idx hidx=>
    cases idx with
    | nil=>simp at hidx
    | cons i idx=>
     simp only[Sm,Nh]at hidx;have hev:∀x,AH μ (Bt X t x) (Frame.eval ⟨fn,tm,.inRegion ops (i::idx)::k1',ds',.run,kd,rd'⟩ x):=fun x=>Mj hlaid htm x
     have hx':=hev x;have hy':=hev y;rw[hx]at hx';rw[hy]at hy';have key:∃bv:Bool,(Nat.blt 0 m=true->bv=false)/\(execOp (Frame.eval ⟨fn,tm,.inRegion ops (i::idx)::k1',ds',.run,kd,rd'⟩) o).run X.P W= .ok (.value (.bool bv)) W:=by
      have he:execOp (Frame.eval ⟨fn,tm,.inRegion ops (i::idx)::k1',ds',.run,kd,rd'⟩) o=(do pure (.value (←(do eqGuard .eql ty x y (Frame.eval ⟨fn,tm,.inRegion ops (i::idx)::k1',ds',.run,kd,rd'⟩ x) (Frame.eval ⟨fn,tm,.inRegion ops (i::idx)::k1',ds',.run,kd,rd'⟩ y);binOp .eql ty (Frame.eval ⟨fn,tm,.inRegion ops (i::idx)::k1',ds',.run,kd,rd'⟩ x) (Frame.eval ⟨fn,tm,.inRegion ops (i::idx)::k1',ds',.run,kd,rd'⟩ y))))):=by simp only[execOp,ho]
      have go:∀bv:Bool,IA X.P .eql ty (Frame.eval ⟨fn,tm,.inRegion ops (i::idx)::k1',ds',.run,kd,rd'⟩ x) (Frame.eval ⟨fn,tm,.inRegion ops (i::idx)::k1',ds',.run,kd,rd'⟩ y)=some (.bool bv)->
       (execOp (Frame.eval ⟨fn,tm,.inRegion ops (i::idx)::k1',ds',.run,kd,rd'⟩) o).run X.P W= .ok (.value (.bool bv)) W:=by
       intro bv hq;rw[he];exact pH (N5 (x:=x) (y:=y) hq W)
      generalize Frame.eval ⟨fn,tm,.inRegion ops (i::idx)::k1',ds',.run,kd,rd'⟩ x=vx at hx' go;generalize Frame.eval ⟨fn,tm,.inRegion ops (i::idx)::k1',ds',.run,kd,rd'⟩ y=vy at hy' go;cases hy'
      cases hx' with
      | Bk=>exact⟨false,fun _=>rfl,go false (by simp[IA,GG,Bn,hu])⟩
      | Cl=>exact⟨false,fun _=>rfl,go false (by simp[IA,GG,Bn,hu])⟩
      | DW _ _ _ T a _ _=>
       cases a with
       | none=>exact⟨true,fun h=>absurd (BE h) (by omega),go true (by simp[IA,GG,Bn,hu])⟩
       | some p=>exact⟨false,fun _=>rfl,go false (by simp[IA,GG,Bn,hu])⟩
      | F9 _ _ _ T a _ _=>
       cases a with
       | none=>exact⟨true,fun h=>absurd (BE h) (by omega),go true (by simp[IA,GG,Bn,hu])⟩
       | some p=>exact⟨false,fun _=>rfl,go false (by simp[IA,GG,Bn,hu])⟩
     obtain⟨bv,hb,hrun⟩:=key;have hst:=kP (cs:=cs'++cs0) hidx.1 (MR htm hw) (fun c e=>by rw[ho]at e;cases e) hrun (.inl rfl);have hfr:Hh X μ H [] ⟨fn,t,n,.Kr ops (o::l)::k,ds,false,kd,rd⟩ ⟨fn,tm,.inRegion ops (i::idx)::k1',ds',.run,kd,rd'⟩:=
      .plain fn t n tm _ _ ds ds' false kd rd rd' htm (.cons (.Kr ops (o::l) (i::idx) (by simp[hidx.1,hidx.2])) hk) hd hrd
     cases bv with
     | true=>
      refine⟨_,ht ?_,μ,_,cs',W,.one hst,hH,hlaid,[],gs,Dl hfr (.bool true) hft,hcs,hnd⟩;cases hq:Nat.blt 0 m
      ·rfl
      ·have:=hb hq;cases this
     | false=>exact⟨_,hf,μ,_,cs',W,.one hst,hH,hlaid,[],gs,Dl hfr (.bool false) hff,hcs,hnd⟩
structure IZ (x h:Value):Prop where
 e:x=h
def Uo (P:Program) (t:TypeId) (b off i:Nat) (H:AA):Option (Bool × Value × Bool):=
 match H.get b with
 | some (.vec k l _)=>
  match P.underlying t,Dx P t with
  | some d,some n=>
   bif Nat.ble (off+n) k.length&& !E4 d&&Nat.blt off Aa then
    match (EK.enc k (l.getD i (EK.BL k)))[off]? with
    | some v=>some (Nat.blt i l.length,v,XF d)
    | none=>none
   else none
  | _,_=>none
 | _=>none
theorem YY {P:Program} {t:TypeId} {b off i:Nat} {H:AA} {c sl:Bool} {x:Value} (h:Uo P t b off i H=some (c,x,sl)) (hc:c=true) (hs:sl=false∨jT x=true):(MN P t b off i H).run=some (x,H):=by
 unfold Uo at h;unfold MN;split at h
 ·rename_i k l ro hb;split at h
  ·rename_i d n hd hn;cases hk:(Nat.ble (off+n) k.length&& !E4 d&&Nat.blt off Aa)
   ·simp only[hk,EB]at h;cases h
   ·simp only[hk,C8]at h;simp only[Dg]at hk;obtain⟨⟨h1,h2⟩,h3⟩:=hk;have h2:E4 d=false:=by simpa using h2
    split at h
    ·rename_i v hv;cases h
     simp only[VT.run,h3,C8];unfold Jq;simp only[hb,hd,hn,h1,h2,C8,EB,hv];cases hsl:XF d
     ·simp only[EB,VT.run,hc,C8]
     ·rcases hs with hs | hs
      ·rw[hsl]at hs;cases hs
      ·simp only[C8,VT.run,hc,hs,yV,aK hs]
    ·cases h
  ·cases h
 ·cases h
def lD:List (Nat × Value)->Nat->C1
 | [],_=>none
 | p::r,b=>bif Nat.beq p.1 b then some p.2 else lD r b
def NO (X:Ctx) (hs:List (Nat × Value)) (t:Tr Value) (o:Oper) (H:AA):Option (Bool × Value × Value):=
 match o.op with
 | .load ty a=>match Bt X t a with
  | .pointer (some ⟨b,off,some i⟩)=>match lD hs b with
   | some h=>match Uo X.P ty b off i H with
    | some (c,x,sl)=>bif !sl||jT h then some (c,x,h)else none
    | none=>none
   | none=>none
  | _=>none
 | _=>none
def Oe (X:Ctx) (pf:Pf) (hs:List (Nat × Value)) (c:BT) (K:Bz):Prop:=
 match c with
 | ⟨⟨fn,t,n,todo,ds,r,kd,rd⟩,cs,H⟩=>
  bif r then HC X pf ⟨⟨fn,t,n,todo,ds,r,kd,rd⟩,cs,H⟩ K else
  match todo with
  | .Kr ops (o::_)::_=>match NO X hs t o H with
   | some (b,x,h)=>Lx ops o t (bif b then IZ x h/\MU ⟨fn,t,n,todo,ds,r,kd,rd⟩ h cs H K else False) (MU ⟨fn,t,n,todo,ds,r,kd,rd⟩ Go.undef cs H K)
   | none=>HC X pf ⟨⟨fn,t,n,todo,ds,r,kd,rd⟩,cs,H⟩ K
  | .Ee ops (.op _ o::_)::_=>match NO X hs t o H with
   | some (b,x,h)=>Lx ops o t (bif b then IZ x h/\MU ⟨fn,t,n,todo,ds,r,kd,rd⟩ h cs H K else False) (MU ⟨fn,t,n,todo,ds,r,kd,rd⟩ Go.undef cs H K)
   | none=>HC X pf ⟨⟨fn,t,n,todo,ds,r,kd,rd⟩,cs,H⟩ K
  | _=>HC X pf ⟨⟨fn,t,n,todo,ds,r,kd,rd⟩,cs,H⟩ K
theorem PA {X:Ctx} {pf:Pf} {hs:List (Nat × Value)} {t:Tr Value} {o:Oper} {fr:Aj} (ht:fr.tmps=t) {cs:List Aj} {H:AA} {b:Bool} {x h:Value} {K:Bz} (hl:NO X hs t o H=some (b,x,h)) (hb:b=true) (hx:x=h) (hK:MU fr h cs H K):Sd X pf o fr cs H K:=by
 unfold NO at hl;split at hl
 ·rename_i ty a ho;split at hl
  ·rename_i bk off i ha;split at hl
   ·rename_i h0 hh;split at hl
    ·rename_i c x0 sl htl;cases hcs:(!sl||jT h0)
     ·simp only[hcs,EB]at hl;cases hl
     ·simp only[hcs,C8,C5,Si]at hl;obtain⟨rfl,rfl,rfl⟩:=hl;have hrun:=YY htl hb (by
       simp only[vZ,sd]at hcs;rcases hcs with h | h
       ·exact .inl h
       ·rw[hx];exact .inr h)
      have hv:Uu X.P (Bt X fr.tmps) o H=some (MN X.P ty bk off i H):=by
       unfold Uu;simp only[ho,ht,ha]
      unfold Sd;simp only[ho];unfold rj;simp only[hv];have:∀(T:VT),T.run=some (x0,H)->(∀(K:Ih),K x0 H->T.Xl K):=by
       intro T;induction T with
       | fail=>intro h;cases h
       | ret v H2=>intro h K hk;cases h;exact hk
       | test c a b iha ihb=>
        intro h K hk;cases c
        ·exact ihb h K hk
        ·exact iha h K hk
      exact this _ hrun _ (by rw[hx];exact hK)
    ·cases hl
   ·cases hl
  ·cases hl
 ·cases hl
theorem Rc {ops:Array Oper} {o:Oper} {t:Tr Value} {Kt Kt' Kf:Prop} (h:Lx ops o t Kt Kf) (hi:Kt->Kt'):Lx ops o t Kt' Kf:=by
 unfold Lx at h ⊢;cases hg:o.guard with
 | none=>simp only[hg]at h ⊢;exact hi h
 | some p=>
  obtain⟨j,want⟩:=p;simp only[hg]at h ⊢;cases hv:G5 ops j with
  | none=>simp only[hv]at h ⊢;exact h
  | some d=>
   simp only[hv]at h ⊢;cases hk:look t d
   case bool b=>
    simp only[hk]at h ⊢;cases want<;>cases b<;>simp only[C8,EB]at h ⊢<;>first | exact h | exact hi h
   case tuple=>simp only[hk]at h ⊢;exact h
   all_goals (simp only[hk]at h)
theorem KS {X:Ctx} {pf:Pf} {hs:List (Nat × Value)} {c:BT} {K:Bz} (h:Oe X pf hs c K):HC X pf c K:=by
 obtain⟨⟨fn,t,n,todo,ds,r,kd,rd⟩,cs,H⟩:=c;unfold Oe at h;simp only at h;cases r with
 | true=>simp only[C8]at h;exact h
 | false=>
  simp only[EB]at h;split at h
  ·rename_i ops o rest k;split at h
   ·rename_i b x hv hl;unfold HC;simp only[EB];refine Rc h fun hh=>?_
    cases b
    ·exact hh.elim
    ·obtain⟨⟨hx⟩,hK⟩:=hh;exact PA (fr:=⟨fn,t,n,_,ds,false,kd,rd⟩) rfl hl rfl hx hK
   ·exact h
  ·rename_i ops i o rest k;split at h
   ·rename_i b x hv hl;unfold HC;simp only[EB];refine Rc h fun hh=>?_
    cases b
    ·exact hh.elim
    ·obtain⟨⟨hx⟩,hK⟩:=hh;exact PA (fr:=⟨fn,t,n,_,ds,false,kd,rd⟩) rfl hl rfl hx hK
   ·exact h
  ·exact h
def u9 (b:Option Nat) (c:BT):Bool:=match b with
 | none=>true
 | some b=>UX b c
def mB (X:Ctx) (pf:Pf) (hs:List (Nat × Value)) (f:FuncId) (ids:AW) (S:Stop) (b:Option Nat) (S2:Stop) (b2:Option Nat) (ks:FV) (Q:Bm) (R R2:Bz) (n:Nat):Bz:=
 Nat.rec (motive:=fun _=>Bz) (fun _=>False) (fun _ ih c=>match FC X f c with
  | some (v,H)=>Q v ((ids++Au 4 v).map H.get)
  | none=>bif S.here c&&u9 b c then(match S.MF X ks c with
   | some c2=>R c2
   | none=>False)
   else bif S2.here c&&u9 b2 c then(match S2.MF X ks c with
    | some c2=>R2 c2
    | none=>False)
   else match VL X c with
    | some (b,ct,cf)=>bif b then ih cf else(ih ct/\ih cf)
    | none=>Oe X pf hs c ih) n
theorem iK {X:Ctx} {pf:Pf} (hpf:HO X pf) {hs:List (Nat × Value)} {f:FuncId} {ids:AW} {M:Nat} {S S2:Stop} {b b2:Option Nat} {ks:FV} (hl:(X.laid.all fun p=>Nat.blt p.1 M)=true) (hN:M<=S.N) (hN2:M<=S2.N) {Q:Bm} {R R2:Bz} {Q':Ih}
 (hQ:∀v H,Q v ((ids++Au 4 v).map H.get)->Q' v H) (hR:∀c,R c->AX X M f Q' c) (hR2:∀c,R2 c->AX X M f Q' c):∀(n:Nat) (c:BT),mB X pf hs f ids S b S2 b2 ks Q R R2 n c->AX X M f Q' c:=by
 have up:∀N,M<=N->(X.laid.all fun p=>Nat.blt p.1 N)=true:=fun N hMN=>by
  rw[AAW]at hl ⊢;intro p hp;exact Ez (wQ (BE (hl p hp)) hMN)
 intro n;induction n with
 | zero=>intro c h;cases h
 | succ n ih=>
  intro c h;have h:(match FC X f c with
   | some (v,H)=>Q v ((ids++Au 4 v).map H.get)
   | none=>bif S.here c&&u9 b c then(match S.MF X ks c with
    | some c2=>R c2
    | none=>False)
    else bif S2.here c&&u9 b2 c then(match S2.MF X ks c with
     | some c2=>R2 c2
     | none=>False)
    else match VL X c with
     | some (b0,ct,cf)=>bif b0 then mB X pf hs f ids S b S2 b2 ks Q R R2 n cf else(mB X pf hs f ids S b S2 b2 ks Q R R2 n ct/\mB X pf hs f ids S b S2 b2 ks Q R R2 n cf)
     | none=>Oe X pf hs c (mB X pf hs f ids S b S2 b2 ks Q R R2 n)):=h
  split at h
  ·rename_i v H e;exact A5.here ⟨v,H,e,hQ v H h⟩
  ·cases hs:S.here c&&u9 b c
   ·simp only[hs,EB]at h;cases hs2:S2.here c&&u9 b2 c
    ·simp only[hs2,EB]at h;split at h
     ·rename_i b0 ct cf hq;cases hb:b0
      ·simp only[hb,EB]at h;exact A5.bind (Reach.Uf (GZ (Φ:=fun c'=>mB X pf _ f ids S b S2 b2 ks Q R R2 n c') hq (fun _=>h.1) h.2)) fun c' hc=>ih c' hc
      ·simp only[hb,C8]at h;exact A5.bind (Reach.Uf (GZ (Φ:=fun c'=>mB X pf _ f ids S b S2 b2 ks Q R R2 n c') hq (fun e=>by rw[hb]at e;cases e) h)) fun c' hc=>ih c' hc
     ·exact A5.bind (Reach.Uf (KD hpf (KS h))) fun c' hc=>ih c' hc
    ·simp only[hs2,C8]at h;split at h
     ·rename_i c2 hc;exact Nb (X:=X) (S:=S2) hN2 (up _ hN2) hc (hR2 c2 h)
     ·cases h
   ·simp only[hs,C8]at h;split at h
    ·rename_i c2 hc;exact Nb (X:=X) (S:=S) hN (up _ hN) hc (hR c2 h)
    ·cases h
def S0 (N:Nat):Stop:=⟨4294967295,0,0,N,[],[]⟩
def CU (X:Ctx) (pf:Pf) (hs:List (Nat × Value)) (f:FuncId) (ids:AW) (M:Nat) (Q:Bm) (n:Nat):Bz:=mB X pf hs f ids (S0 M) none (S0 M) none [] Q (fun _=>False) (fun _=>False) n
theorem BK {X:Ctx} {pf:Pf} (hpf:HO X pf) {hs:List (Nat × Value)} {f:FuncId} {ids:AW} {M:Nat} (hl:(X.laid.all fun p=>Nat.blt p.1 M)=true) {Q:Bm} {n:Nat} {c:BT} (h:CU X pf hs f ids M Q n c):AX X M f (fun v H=>Q v ((ids++Au 4 v).map H.get)) c:=
 iK hpf hl (GO M) (GO M) (fun _ _ h=>h) (fun _ h=>h.elim) (fun _ h=>h.elim) n c h
abbrev Iy (X:Ctx) (pf:Pf) (hs:List (Nat × Value)) (f:FuncId) (ids:AW) (S:Stop) (ks:FV) (Q:Bm) (R:Bz) (n:Nat) (c:BT):Prop:=mB X pf hs f ids S none S none ks Q R (fun _=>False) n c
theorem Bq {X:Ctx} {pf:Pf} (hpf:HO X pf) (hs:List (Nat × Value)) {f:FuncId} (ids:AW) {M:Nat} (S:Stop) (ks:FV) (hl:(X.laid.all fun p=>Nat.blt p.1 M)=true) (hN:M<=S.N) {Q':Ih} (Q:Bm) (R:Bz)
 (hQ:∀v H,Q v ((ids++Au 4 v).map H.get)->Q' v H) (hR:∀c,R c->AX X M f Q' c) {n:Nat} {c:BT} (h:Iy X pf hs f ids S ks Q R n c):AX X M f Q' c:=
 iK hpf hl hN hN hQ hR (fun _ h=>h.elim) n c h
theorem Kx {μ ν:Ae} {a a1:Value} (hle:μ.le ν) (h:∀v',AH μ a v'->AH ν a1 v') {post:AL}:∀(pre l':AL),Am μ (pre++a::post) l'->Am ν (pre++a1::post) l'
 | [],_,hl=>by cases hl with | cons h1 h2=>exact .cons (h _ h1) (h2.mono hle)
 | p::pre,_,hl=>by cases hl with | cons h1 h2=>exact .cons (h1.mono hle) (Kx hle h pre _ h2)
section
variable {base:Env} {W0 W:World} {μ:Ae} {H:AA}
def AA.nw (H:AA) (n:Nat):AA:=⟨H.m,max H.next n⟩
theorem AJ.nw (h:AJ base W0 μ H W) (n:Nat):AJ base W0 μ (H.nw n) W:=
 ⟨h.obj,h.own,h.inj,fun b hb=>h.fresh b (wQ (Nat.le_max_left _ _) hb),h.bound,h.size,h.below,h.out,h.os,(let ⟨φ,a⟩:=h.abs;⟨φ,a.rep,a.DG⟩),h.le,h.grow⟩
def AA.FN (H:AA) (k:EK):AA:=(H.nw 100).alloc (.vec k [] false)
def AA.Cx (H:AA):Nat:=max H.next 100
theorem AA.O4 (H:AA):100<=H.Cx:=Nat.le_max_right _ _
theorem AA.KH (H:AA) (k:EK) (i:Nat):(H.FN k).get i=if i=H.Cx then some (.vec k [] false)else H.get i:=AA.AM _ _ _
def NoRoom (μ:Ae) (x:Value):Prop:=∀v',AH μ x v'->∃a:Option (Nat × Nat),v'= .slice (a.map fun p=>⟨p.1,p.2,none⟩) 0 0
theorem YT:NoRoom μ (.slice none 0 0):=fun v' hv=>by cases hv;exact⟨none,rfl⟩
theorem AJ.ir (h:AJ base W0 μ H W) {b e c:Nat} {k:EK} {ro:Bool} {x:Value} {pre post:AL} (hc:∃T,μ c=some T) (hx:∀ν:Ae,NoRoom ν x)
 (hb:H.get b=some (.cells (pre++x::post) e ro)) (hb2:b < 100) (hk0:k.length≠0:=by decide):
 ∃μ2,μ.le μ2/\AJ base W0 μ2 ((H.FN k).put b (.cells (pre++ .slice (some ⟨H.Cx,0,some 0⟩) 0 Aa::post) e ro)) W:=by
 obtain⟨T,hT⟩:=hc;obtain⟨h1,h2⟩:=(h.nw 100).FN hT hk0 false;refine⟨_,h2.le,?_⟩;have hb3:(H.FN k).get b=some (.cells (pre++x::post) e ro):=by
  rw[AA.KH,JT (by have:=H.O4;omega)];exact hb
 have hs:AJ base W0 _ (H.FN k) W:=h1;refine hs.swap hb3 (fun T' o' _ ho=>?_) rfl rfl rfl (fun _ _ hv=>hv);cases ho with
 | cells _ _ _ c t lo hi he hc hr hf=>
  refine .cells T' _ e ro c t lo hi he ?_ hr hf;have hc2:=Kx (a1:= .slice (some ⟨H.Cx,0,some 0⟩) 0 Aa) (Ae.le_refl _) (fun v' hv=>by
   obtain⟨a,rfl⟩:=hx _ v' hv;exact .DW _ 0 Aa _ a (Ae.Af _ _ _) (.inr ⟨GO _,me _⟩)) pre _ hc
  have e1:(pre++x::post).length=(pre++Value.slice (some ⟨H.Cx,0,some 0⟩) 0 Aa::post).length:=by simp
  rw[<-e1];exact hc2
theorem AJ.lZ (h:AJ base W0 μ H W) {b e c:Nat} {k:EK} {ro:Bool} {pre post:AL} (hc:∃T,μ c=some T)
 (hb:H.get b=some (.cells (pre++ .slice none 0 0::post) e ro)) (hb2:b < 100) (hk0:k.length≠0:=by decide):
 ∃μ2,μ.le μ2/\AJ base W0 μ2 ((H.FN k).put b (.cells (pre++ .slice (some ⟨H.Cx,0,some 0⟩) 0 Aa::post) e ro)) W:=
 h.ir hc (fun _=>YT) hb hb2 hk0
end
theorem Dh:Aa=18446744073709551616:=by unfold Aa;rfl
inductive Fz (z:Nat):Value->Value->Prop where
 | same (v:Value):Fz z v v
 | nil:Fz z (.slice none 0 0) (.slice (some ⟨z,0,some 0⟩) 0 18446744073709551616)
 | emp (b o:Nat):Fz z (.slice (some ⟨b,o,none⟩) 0 0) (.slice (some ⟨z,0,some 0⟩) 0 18446744073709551616)
inductive Vd (z:Nat):AL->AL->Prop where
 | nil:Vd z [] []
 | cons {v w:Value} {l m:AL} (h:Fz z v w) (t:Vd z l m):Vd z (v::l) (w::m)
inductive pY (z:Nat):Value->Value->Prop where
 | val {v w:Value} (h:Fz z v w):pY z v w
 | tuple {l m:AL} (h:Vd z l m):pY z (.tuple ⟨l⟩) (.tuple ⟨m⟩)
theorem Fz.QS {μ ν:Ae} (hle:μ.le ν) {z:Nat} {T:Bc} (hz:ν z=some T) {v w v':Value} (h:Fz z v w) (hv:AH μ v v'):AH ν w v':=by
 cases h with
 | same=>exact hv.mono hle
 | nil=>
  cases hv
  exact .DW z 0 _ T none hz (.inr ⟨by rw[Dh];exact GO _,by rw[Dh]⟩)
 | emp b o=>
  cases hv with
  | slice _ _ _ _ cap' o' T' hm hc ho=>
   obtain rfl:cap'=0:=by
    rcases hc with⟨_,h⟩ | ⟨h,_⟩
    ·exact h
    ·rw[Dh]at h;omega
   exact .DW z 0 _ T (some (T'.c,o')) hz (.inr ⟨by rw[Dh];exact GO _,by rw[Dh]⟩)
theorem Vd.hJ {μ ν:Ae} (hle:μ.le ν) {z:Nat} {T:Bc} (hz:ν z=some T) {l m:AL} (h:Vd z l m):∀{l':AL},Am μ l l'->Am ν m l':=by
 induction h with
 | nil=>intro l' h;cases h;exact .nil
 | cons h _ ih=>intro l' hl;cases hl with | cons h1 h2=>exact .cons (h.QS hle hz h1) (ih h2)
theorem Vd.length {z:Nat} {l m:AL} (h:Vd z l m):l.length=m.length:=by
 induction h with
 | nil=>rfl
 | cons _ _ ih=>simp[ih]
theorem pY.QS {μ ν:Ae} (hle:μ.le ν) {z:Nat} {T:Bc} (hz:ν z=some T) {v w v':Value} (h:pY z v w) (hv:AH μ v v'):AH ν w v':=by
 cases h with
 | val h=>exact h.QS hle hz hv
 | tuple h=>
  obtain⟨xs',rfl,hl⟩:=AH.CE.1 hv;exact AH.CE.2 ⟨xs',rfl,h.hJ hle hz hl⟩
theorem Vd.refl (z:Nat):∀l:AL,Vd z l l
 | []=> .nil
 | v::l=> .cons (.same v) (Vd.refl z l)
theorem AH.rn {μ ν:Ae} {a j z:Nat} {T M:Bc} {w:Value} (hT:μ a=some T) (hM:Kn T.e j=some M) (hz:ν z=some M) (h:AH μ (.pointer (some ⟨a,Aa,some j⟩)) w):AH ν (.pointer (some ⟨z,0,none⟩)) w:=by
 cases h with
 | HS _ _ _ _ _ hlo=>exact absurd hlo (uB _)
 | HY _ _ _ T2 M2 h1 h2 _=>
  rw[hT]at h1;cases h1
  rw[hM]at h2;cases h2
  exact .ptr z 0 M hz
section
variable {base:Env} {W0:World} {μ:Ae} {H:AA} {W:World}
def AA.Oi (H:AA) (a j:Nat) (L:List (Option Pk)) (s:Pk):AA:=(H.put a (.abs (.Bl (L.set j none)) false)).alloc (.abs (.pack s) false)
theorem Nu {H:AA} {a j:Nat} {L:List (Option Pk)} {s:Pk} (x:Nat):(H.Oi a j L s).get x=if x=H.next then some (.abs (.pack s) false)else if x=a then some (.abs (.Bl (L.set j none)) false)else H.get x:=by
 unfold AA.Oi;rw[AA.AM];show(if x=H.next then _ else _)=_;split
 ·rfl
 ·rw[AA.AU]
theorem AJ.Oi (h:AJ base W0 μ H W) {a j:Nat} {L:List (Option Pk)} {s:Pk} {T:Bc} (ha:H.get a=some (.abs (.Bl L) false)) (hm:μ a=some T) (hj:L[j]? = some (some s)):
 ∃ts M,T.e=CH ts/\ts[j]? = some M/\C3 s=[]/\AJ base W0 (μ.ext H.next M) (H.Oi a j L s) W:=by
 obtain⟨φ,q⟩:=h.abs;obtain⟨⟨ts,Fm,hR,hP⟩,hK⟩:=q.rep a _ false T ha hm;have hK:=hK rfl;have hlt:=h.lt ha;obtain⟨M,hM⟩:=hR.at hj;refine⟨ts,M,hR.code,hM,hR.ext j s hj,?_⟩;have hpk:=hP j M s hM hj;obtain⟨hb1,hb2⟩:=hpk.JA;have hsub:∀x,Fm j x->φ a x:=fun x hx=>(hR.own x).2 ⟨j,s,hj,hx⟩
 have hMs:M.c < W.heap.size:=hb2 _ hb1;have hle:μ.le (μ.ext H.next M):=Ae.Cc M (h.fresh _ (GO _)).2;have key:∀b o T2,(H.Oi a j L s).get b=some o->(μ.ext H.next M) b=some T2->(b=H.next/\o= .abs (.pack s) false/\T2=M)∨(b=a/\o= .abs (.Bl (L.set j none)) false/\T2=T)∨(b≠H.next/\b≠a/\H.get b=some o/\μ b=some T2):=by
  intro b o T2 hb hT;rw[Nu]at hb
  by_cases e:b=H.next
  ·rw[MB e]at hb;cases hb
   subst e;rw[Ae.Af]at hT;cases hT
   exact .inl ⟨rfl,rfl,rfl⟩
  ·rw[JT e]at hb;rw[Ae.BI _ _ e]at hT
   by_cases e2:b=a
   ·rw[MB e2]at hb;cases hb
    subst e2;rw[hm]at hT;cases hT
    exact .inr (.inl ⟨rfl,rfl,rfl⟩)
   ·rw[JT e2]at hb;exact .inr (.inr ⟨e,e2,hb,hT⟩)
 have DG:∀b o T2,H.get b=some o->μ b=some T2->b≠a->¬o.void T2->¬Fm j T2.c:=fun b o T2 hb hT hne hv hx=>(q.DG a _ false T ha hm b o T2 hb hT hne).1 hv (hsub _ hx)
 have hset:∀(i:Nat) (m:Pk),(L.set j none)[i]? = some (some m)->i≠j/\L[i]? = some (some m):=by
  intro i m hi;rw[Q6]at hi
  by_cases e:j=i
  ·rw[MB e]at hi;split at hi<;>cases hi
  ·rw[JT e]at hi;exact⟨fun h=>e h.symm,hi⟩
 have hset2:∀(i:Nat) (m:Pk),i≠j->L[i]? = some (some m)->(L.set j none)[i]? = some (some m):=by
  intro i m e hi;rw[Q6,JT (fun h=>e h.symm)];exact hi
 let φ':Nat->Nat->Prop:=fun b x=>if b=H.next then Fm j x else if b=a then φ a x/\¬Fm j x else φ b x
 have φz:∀x,φ' H.next x ↔ Fm j x:=fun x=>by show(if H.next=H.next then _ else _) ↔ _;rw[MB rfl]
 have φa:∀x,φ' a x ↔ (φ a x/\¬Fm j x):=fun x=>by show(if a=H.next then _ else if a=a then _ else _) ↔ _;rw[JT (by omega),MB rfl]
 have φo:∀b,b≠H.next->b≠a->φ' b=φ b:=fun b hb hb2=>by funext x;show(if b=H.next then _ else if b=a then _ else _)=_;rw[JT hb,JT hb2]
 refine⟨?_,?_,?_,?_,?_,h.size,h.below,h.out,h.os,⟨φ',?_,?_⟩,Ae.le_trans h.le hle,h.grow⟩
 ·intro b o hb T2 hT;rcases key b o T2 hb hT with⟨rfl,rfl,rfl⟩ | ⟨rfl,rfl,rfl⟩ | ⟨_,_,hb,hT⟩
  ·exact⟨_,dm hMs,.abs _ _ _ _⟩
  ·obtain⟨p,hp,_⟩:=h.obj b _ ha _ hm;exact⟨p,hp,.abs _ _ _ _⟩
  ·obtain⟨p,hp,hp2⟩:=h.obj b o hb T2 hT;exact⟨p,hp,hp2.mono hle⟩
 ·intro b o hb hr T2 hT hv;rcases key b o T2 hb hT with⟨rfl,rfl,rfl⟩ | ⟨rfl,rfl,rfl⟩ | ⟨_,_,hb,hT⟩
  ·exact hK _ (hsub _ hb1)
  ·exact absurd trivial hv
  ·exact h.own b o hb hr T2 hT hv
 ·intro b1 b2 o1 o2 h1 h2 T1 T2 m1 m2 v1 v2 hc hrr;rcases key b1 o1 T1 h1 m1 with⟨rfl,rfl,rfl⟩ | ⟨rfl,rfl,rfl⟩ | ⟨n1,n2,g1,k1⟩<;>rcases key b2 o2 T2 h2 m2 with⟨rfl,rfl,rfl⟩ | ⟨rfl,rfl,rfl⟩ | ⟨n3,n4,g2,k2⟩
  ·rfl
  ·exact absurd trivial v2
  ·exact absurd (hc ▸ hb1) (DG b2 o2 T2 g2 k2 n4 v2)
  ·exact absurd trivial v1
  ·rfl
  ·exact absurd trivial v1
  ·exact absurd (hc ▸ hb1) (DG b1 o1 T1 g1 k1 n2 v1)
  ·exact absurd trivial v2
  ·exact h.inj _ _ o1 o2 g1 g2 T1 T2 k1 k2 v1 v2 hc hrr
 ·intro b hb;have hb:H.next+1<=b:=hb;refine⟨?_,by rw[Ae.BI _ _ (by omega)];exact(h.fresh b (by omega)).2⟩;rw[Nu,JT (by omega),JT (by omega)];exact(h.fresh b (by omega)).1
 ·intro b T2 hT
  by_cases e:b=H.next
  ·subst e;rw[Ae.Af]at hT;cases hT;exact hMs
  ·rw[Ae.BI _ _ e]at hT;exact h.bound b T2 hT
 ·intro b c ro T2 hb hT;rcases key b _ T2 hb hT with⟨rfl,e,rfl⟩ | ⟨rfl,e,rfl⟩ | ⟨n1,n2,hb,hT⟩
  ·cases e
   have e2:φ' H.next=Fm j:=funext fun x=>propext (φz x)
   rw[e2];exact⟨Fg.mono hle hpk,fun _ i hi=>hK i (hsub i hi)⟩
  ·cases e
   refine⟨⟨ts,Fm,⟨hR.code,by rw[SB];exact hR.len,hR.Zc,fun i m h1=>hR.ext i m (hset i m h1).2,fun i1 i2 x m1 m2 h1 h2 h3 h4=>hR.xM i1 i2 x m1 m2 (hset i1 m1 h1).2 (hset i2 m2 h2).2 h3 h4,fun x=>?_⟩,fun i N m h1 h2=>(hP i N m h1 (hset i m h2).2).mono hle⟩,fun _ i hi=>hK i ((φa i).1 hi).1⟩;rw[φa x,hR.own x];constructor
   ·rintro⟨⟨i,m,g1,g2⟩,h2⟩;have e:i≠j:=by rintro rfl;exact h2 g2
    exact⟨i,m,hset2 i m e g1,g2⟩
   ·rintro⟨i,m,g1,g2⟩;obtain⟨e,g3⟩:=hset i m g1;exact⟨⟨i,m,g3,g2⟩,fun hh=>e (hR.xM i j x m s g3 hj g2 hh)⟩
  ·obtain⟨r1,r2⟩:=q.rep b c ro T2 hb hT;rw[φo b n1 n2];exact⟨r1.mono hle,r2⟩
 ·intro b c ro T2 hb hT b2 o2 T3 hb2 hT2 hne;rcases key b _ T2 hb hT with⟨rfl,e,rfl⟩ | ⟨rfl,e,rfl⟩ | ⟨n1,n2,hb,hT⟩
  ·rcases key b2 o2 T3 hb2 hT2 with⟨rfl,_,_⟩ | ⟨rfl,rfl,rfl⟩ | ⟨n3,n4,g2,k2⟩
   ·exact absurd rfl hne
   ·exact⟨fun hv2=>absurd trivial hv2,fun _ i hi hi2=>((φa i).1 hi2).2 ((φz i).1 hi)⟩
   ·rw[φo b2 n3 n4];have:=q.DG a _ false _ ha hm b2 o2 T3 g2 k2 n4;exact⟨fun hv2 hh=>this.1 hv2 (hsub _ ((φz _).1 hh)),fun h1 i hi hi2=>this.2 h1 i (hsub _ ((φz _).1 hi)) hi2⟩
  ·rcases key b2 o2 T3 hb2 hT2 with⟨rfl,rfl,rfl⟩ | ⟨rfl,_,_⟩ | ⟨n3,n4,g2,k2⟩
   ·exact⟨fun _ hh=>((φa _).1 hh).2 hb1,fun _ i hi hi2=>((φa i).1 hi).2 ((φz i).1 hi2)⟩
   ·exact absurd rfl hne
   ·rw[φo b2 n3 n4];have:=q.DG b _ false _ ha hm b2 o2 T3 g2 k2 n4;exact⟨fun hv2 hh=>this.1 hv2 ((φa _).1 hh).1,fun h1 i hi hi2=>this.2 h1 i ((φa _).1 hi).1 hi2⟩
  ·rw[φo b n1 n2];have hba:=q.DG b c ro T2 hb hT a _ T ha hm (gi n2);rcases key b2 o2 T3 hb2 hT2 with⟨rfl,rfl,rfl⟩ | ⟨rfl,rfl,rfl⟩ | ⟨n3,n4,g2,k2⟩
   ·exact⟨fun _ hh=>hba.2 rfl _ hh (hsub _ hb1),fun _ i hi hi2=>hba.2 rfl i hi (hsub _ ((φz i).1 hi2))⟩
   ·exact⟨fun hv2=>absurd trivial hv2,fun _ i hi hi2=>hba.2 rfl i hi ((φa i).1 hi2).1⟩
   ·rw[φo b2 n3 n4];exact q.DG b c ro T2 hb hT b2 o2 T3 g2 k2 hne
theorem AJ.Zm (h:AJ base W0 μ H W) {a z j:Nat} {L:List (Option Pk)} {s:Pk} {T M:Bc} {ts:List Bc} (ha:H.get a=some (.abs (.Bl (L.set j none)) false)) (hm:μ a=some T)
 (hc:T.e=CH ts) (hM:ts[j]? = some M) (hz:H.get z=some (.abs (.pack s) false)) (hzm:μ z=some M) (he:C3 s=[]) (hj:j < L.length):AJ base W0 μ ((H.del z).put a (.abs (.Bl (L.set j (some s))) false)) W:=by
 obtain⟨φ,q⟩:=h.abs;obtain⟨⟨us,Fm,hR,hP⟩,hK⟩:=q.rep a _ false T ha hm;have hut:us=ts:=Hk (hR.code.symm.trans hc);subst hut;obtain⟨hZ,hZK⟩:=q.rep z _ false M hz hzm;have hZ:Fg μ W s M (φ z):=hZ;have hza:z≠a:=by rintro rfl;rw[ha]at hz;cases hz
 have get:∀x,((H.del z).put a (.abs (.Bl (L.set j (some s))) false)).get x=if x=a then some (.abs (.Bl (L.set j (some s))) false)else if x=z then none else H.get x:=fun x=>by
  rw[AA.AU];split
  ·rfl
  ·rw[AA.BU]
 have key:∀b o T2,((H.del z).put a (.abs (.Bl (L.set j (some s))) false)).get b=some o->μ b=some T2->(b=a/\o= .abs (.Bl (L.set j (some s))) false/\T2=T)∨(b≠a/\b≠z/\H.get b=some o):=by
  intro b o T2 hb hT;rw[get]at hb
  by_cases e:b=a
  ·rw[MB e]at hb;cases hb
   subst e;rw[hm]at hT;cases hT
   exact .inl ⟨rfl,rfl,rfl⟩
  ·rw[JT e]at hb
   by_cases e2:b=z
   ·rw[MB e2]at hb;cases hb
   ·rw[JT e2]at hb;exact .inr ⟨e,e2,hb⟩
 have get1:∀(i:Nat) (m:Pk),(L.set j (some s))[i]? = some (some m)->(i=j/\m=s)∨(i≠j/\(L.set j none)[i]? = some (some m)):=by
  intro i m hi;rw[Q6]at hi
  by_cases e:j=i
  ·rw[MB e,MB hj]at hi;cases hi
   exact .inl ⟨e.symm,rfl⟩
  ·rw[JT e]at hi;refine .inr ⟨fun h=>e h.symm,?_⟩;rw[Q6,JT e];exact hi
 have get2:∀(i:Nat) (m:Pk),(L.set j none)[i]? = some (some m)->i≠j/\(L.set j (some s))[i]? = some (some m):=by
  intro i m hi;rw[Q6]at hi
  by_cases e:j=i
  ·rw[MB e]at hi;split at hi<;>cases hi
  ·rw[JT e]at hi;refine⟨fun h=>e h.symm,?_⟩;rw[Q6,JT e];exact hi
 have get3:(L.set j (some s))[j]? = some (some s):=by rw[Q6,MB rfl,MB hj]
 have zfar:=q.DG a _ false T ha hm z _ M hz hzm hza;let Fm':Nat->Nat->Prop:=fun i x=>if i=j then φ z x else Fm i x
 have Fj:∀x,Fm' j x ↔ φ z x:=fun x=>by show(if j=j then _ else _) ↔ _;rw[MB rfl]
 have Fo:∀i,i≠j->Fm' i=Fm i:=fun i hi=>by funext x;show(if i=j then _ else _)=_;rw[JT hi]
 let φ':Nat->Nat->Prop:=fun b x=>if b=a then φ a x∨φ z x else φ b x
 have φa:∀x,φ' a x ↔ (φ a x∨φ z x):=fun x=>by show(if a=a then _ else _) ↔ _;rw[MB rfl]
 have φo:∀b,b≠a->φ' b=φ b:=fun b hb=>by funext x;show(if b=a then _ else _)=_;rw[JT hb]
 refine⟨?_,?_,?_,?_,h.bound,h.size,h.below,h.out,h.os,⟨φ',?_,?_⟩,h.le,h.grow⟩
 ·intro b o hb T2 hT;rcases key b o T2 hb hT with⟨rfl,rfl,rfl⟩ | ⟨_,_,hb⟩
  ·obtain⟨p,hp,_⟩:=h.obj b _ ha _ hm;exact⟨p,hp,.abs _ _ _ _⟩
  ·exact h.obj b o hb T2 hT
 ·intro b o hb hr T2 hT hv;rcases key b o T2 hb hT with⟨rfl,rfl,rfl⟩ | ⟨_,_,hb⟩
  ·exact absurd trivial hv
  ·exact h.own b o hb hr T2 hT hv
 ·intro b1 b2 o1 o2 h1 h2 T1 T2 m1 m2 v1 v2 hcc hrr;rcases key b1 o1 T1 h1 m1 with⟨rfl,rfl,rfl⟩ | ⟨n1,n2,g1⟩<;>rcases key b2 o2 T2 h2 m2 with⟨rfl,rfl,rfl⟩ | ⟨n3,n4,g2⟩
  ·rfl
  ·exact absurd trivial v1
  ·exact absurd trivial v2
  ·exact h.inj _ _ o1 o2 g1 g2 T1 T2 m1 m2 v1 v2 hcc hrr
 ·intro b hb;have hb:H.next<=b:=hb;refine⟨?_,(h.fresh b hb).2⟩;have hlt:=h.lt ha;rw[get,JT (by omega)];split
  ·rfl
  ·exact(h.fresh b hb).1
 ·intro b c ro T2 hb hT;rcases key b _ T2 hb hT with⟨rfl,e,rfl⟩ | ⟨n1,n2,hb⟩
  ·cases e
   refine⟨⟨us,Fm',⟨hR.code,by rw[SB];have:=hR.len;rw[SB]at this;exact this,hR.Zc,fun i m h1=>?_,fun i1 i2 x m1 m2 h1 h2 h3 h4=>?_,fun x=>?_⟩,fun i N m h1 h2=>?_⟩,fun hro i hi=>?_⟩
   ·rcases get1 i m h1 with⟨rfl,rfl⟩ | ⟨_,h1⟩
    ·exact he
    ·exact hR.ext i m h1
   ·rcases get1 i1 m1 h1 with⟨e1,e2⟩ | ⟨e1,g3⟩<;>rcases get1 i2 m2 h2 with⟨e3,e4⟩ | ⟨e3,g4⟩
    ·exact e1.trans e3.symm
    ·subst e1 e2;rw[Fo i2 e3]at h4;exact absurd ((Fj x).1 h3) (zfar.2 rfl x ((hR.own x).2 ⟨i2,m2,g4,h4⟩))
    ·subst e3 e4;rw[Fo i1 e1]at h3;exact absurd ((Fj x).1 h4) (zfar.2 rfl x ((hR.own x).2 ⟨i1,m1,g3,h3⟩))
    ·rw[Fo i1 e1]at h3;rw[Fo i2 e3]at h4;exact hR.xM i1 i2 x m1 m2 g3 g4 h3 h4
   ·rw[φa x,hR.own x];constructor
    ·rintro(⟨i,m,g1,g2⟩ | h1)
     ·obtain⟨e,g3⟩:=get2 i m g1;exact⟨i,m,g3,by rw[Fo i e];exact g2⟩
     ·exact⟨j,s,get3,(Fj x).2 h1⟩
    ·rintro⟨i,m,g1,g2⟩;rcases get1 i m g1 with⟨rfl,rfl⟩ | ⟨e,g3⟩
     ·exact .inr ((Fj x).1 g2)
     ·rw[Fo i e]at g2;exact .inl ⟨i,m,g3,g2⟩
   ·rcases get1 i m h2 with⟨rfl,rfl⟩ | ⟨e,h2⟩
    ·rw[hM]at h1;cases h1
     have e2:Fm' i=φ z:=funext fun x=>propext (Fj x)
     rw[e2];exact hZ
    ·rw[Fo i e];exact hP i N m h1 h2
   ·rcases(φa i).1 hi with hi | hi
    ·exact hK rfl i hi
    ·exact hZK rfl i hi
  ·rw[φo b n1];exact q.rep b c ro T2 hb hT
 ·intro b c ro T2 hb hT b2 o2 T3 hb2 hT2 hne;rcases key b _ T2 hb hT with⟨rfl,e,rfl⟩ | ⟨n1,n2,hb'⟩
  ·rcases key b2 o2 T3 hb2 hT2 with⟨rfl,_,_⟩ | ⟨n3,n4,g2⟩
   ·exact absurd rfl hne
   ·have f1:=q.DG b _ false _ ha hm b2 o2 T3 g2 hT2 n3;have f2:=q.DG z _ false _ hz hzm b2 o2 T3 g2 hT2 n4;refine⟨fun hv2 hh=>?_,fun h1 i hi hi2=>?_⟩
    ·rcases(φa _).1 hh with hh | hh
     ·exact f1.1 hv2 hh
     ·exact f2.1 hv2 hh
    ·rw[φo b2 n3]at hi2;rcases(φa _).1 hi with hi | hi
     ·exact f1.2 h1 i hi hi2
     ·exact f2.2 h1 i hi hi2
  ·rw[φo b n1];rcases key b2 o2 T3 hb2 hT2 with⟨rfl,rfl,rfl⟩ | ⟨n3,n4,g2⟩
   ·have f1:=q.DG b c ro T2 hb' hT b2 _ _ ha hm hne;have f2:=q.DG b c ro T2 hb' hT z _ _ hz hzm (gi n2);refine⟨fun hv2=>absurd trivial hv2,fun _ i hi hi2=>?_⟩;rcases(φa _).1 hi2 with hi2 | hi2
    ·exact f1.2 rfl i hi hi2
    ·exact f2.2 rfl i hi hi2
   ·have:=q.DG b c ro T2 hb' hT b2 o2 T3 g2 hT2 hne;rw[φo b2 n3];exact this
end
open Classical in
def RW (F:DO):DO:=fun args H=>match args with
 | .pointer (some ⟨a,18446744073709551616,some j⟩)::rest=>match H.get a with
  | some (.abs (.Bl L) false)=>match L[j]? with
   | some (some s)=>match F (.pointer (some ⟨H.next,0,none⟩)::rest) (H.Oi a j L s)with
    | some (v,H2)=>match H2.get H.next with
     | some (.abs (.pack s2) false)=>if C3 s2=[]/\H2.get a=some (.abs (.Bl (L.set j none)) false)then some (v,(H2.del H.next).put a (.abs (.Bl (L.set j (some s2))) false))else none
     | _=>none
    | none=>none
   | _=>none
  | _=>none
 | _=>F args H
theorem nq:Aa=18446744073709551616:=by unfold Aa;rfl
theorem jQ {P:Program} {laid:Co} {f:FuncId} {F:DO} (h:CY P laid f F):CY P laid f (RW F):=by
 refine⟨h.1,fun base W0 μ H W args args' v H' hW hH hl ha hF=>?_⟩;unfold RW at hF;split at hF
 ·rename_i a j rest;split at hF
  ·rename_i L hga;split at hF
   ·rename_i s hLj;split at hF
    ·rename_i v1 H2 hF2;split at hF
     ·rename_i s2 hz2;split at hF
      ·rename_i hkeep;cases hF
       obtain⟨k1,k2⟩:=hkeep;obtain⟨args'⟩:=args';cases ha with
       | cons ha0 har=>
        rename_i w rest';have ha0:AH μ (.pointer (some ⟨a,Aa,some j⟩)) w:=by rw[nq];exact ha0
        obtain⟨T,hT⟩:∃T,μ a=some T:=by
         cases ha0 with
         | HS _ _ _ T h=>exact⟨T,h⟩
         | HY _ _ _ T _ h=>exact⟨T,h⟩
        obtain⟨ts,M,e1,e2,e3,hH2⟩:=hH.Oi hga hT hLj;have hlt:=hH.lt hga;have hle:μ.le (μ.ext H.next M):=Ae.Cc M (hH.fresh _ (GO _)).2;have ha0':AH (μ.ext H.next M) (.pointer (some ⟨H.next,0,none⟩)) w:=AH.rn hT (by rw[e1,FG];exact e2) (Ae.Af _ _ _) ha0;refine(h.2 base W0 _ _ W _ _ _ _ hW hH2 (hl.mono hle) (.cons ha0' (har.mono hle)) hF2).mono fun e W' ⟨v',μ',he,r1,r2,r3⟩=>?_
        have ma:μ' a=some T:=r3.le a T (hle a T hT);have mz:μ' H.next=some M:=r3.le _ M (Ae.Af _ _ _);have r4:=r1.Zm (a:=a) (z:=H.next) (j:=j) k2 ma e1 e2 hz2 mz k1 (List.getElem?_eq_some_iff.1 hLj).1;refine⟨v',μ',he,r4,r2,Ae.le_trans hle r3.le,?_,fun b hb hn=>?_⟩
        ·have h1:=r3.next;have h2:H.next+1<=H2.next:=h1;show H.next<=H2.next;omega
        ·have hba:b≠a:=by rintro rfl;rw[hT]at hn;cases hn
         have g:=r3.ghost b (by show b < H.next+1;omega) (by rw[Ae.BI _ _ (by omega)];exact hn);refine⟨g.1,?_⟩;rw[AA.AU,JT hba,AA.BU,JT (by omega),g.2,Nu,JT (by omega),JT hba]
      ·cases hF
     ·cases hF
    ·cases hF
   ·cases hF
  ·cases hF
 ·exact h.2 base W0 μ H W args args' v H' hW hH hl ha hF
structure Tq (L:List (Option Pk)) (j:Nat) (s:Pk):Prop where
 e:L[j]? = some (some s)
structure GD (s2:Pk) (L L2:List (Option Pk)) (j:Nat):Prop where
 e1:C3 s2=[]
 e2:L2=L.set j none
def fJ (p:HL) (s:Pk):HL:=fun args H K=>match args with
 | .pointer (some ⟨a,18446744073709551616,some j⟩)::rest=>match H.get a with
  | some (.abs (.Bl L) false)=>Tq L j s/\p (.pointer (some ⟨H.next,0,none⟩)::rest) (H.Oi a j L s) fun v H2=>
   match H2.get H.next with
   | some (.abs (.pack s2) false)=>match H2.get a with
    | some (.abs (.Bl L2) false)=>GD s2 L L2 j/\K v ((H2.del H.next).put a (.abs (.Bl (L.set j (some s2))) false))
    | _=>False
   | _=>False
  | _=>False
 | _=>p args H K
theorem kc {X:Ctx} {f:FuncId} {F:DO} {p:HL} {s:Pk} (hX:X.IN f=some (RW F)) (hp:∀(args:AL) (H:AA) (K:Ih),p args H K->∃v H',F args H=some (v,H')/\K v H')
 (args:AL) (H:AA) (K:Ih) (h:fJ p s args H K):∃v H',CP X f args .normal H=some (v,H')/\K v H':=by
 have fin:∀v H',RW F args H=some (v,H')->CP X f args .normal H=some (v,H'):=fun v H' e=>by unfold CP;rw[hX];exact e
 unfold fJ at h;split at h
 ·rename_i a j rest;split at h
  ·rename_i L hga;obtain⟨⟨hL⟩,h⟩:=h;obtain⟨v,H2,h1,h5⟩:=hp _ _ _ h;split at h5
   ·rename_i s2 h2;split at h5
    ·rename_i L2 h3;obtain⟨⟨e1,rfl⟩,h4⟩:=h5;refine⟨v,_,fin _ _ ?_,h4⟩;unfold RW;simp only[hga,hL,h1,h2];rw[MB ⟨e1,h3⟩]
    ·exact h5.elim
   ·exact h5.elim
  ·exact h.elim
 ·rename_i hno;obtain⟨v,H2,h1,h5⟩:=hp _ _ _ h;refine⟨v,H2,fin _ _ ?_,h5⟩;unfold RW;split
  ·rename_i a j rest;exact absurd rfl (hno a j rest)
  ·exact h1
theorem K7 {μ:Ae} {b o m cap:Nat} {s:Option Nat} {v':Value} (h:AH μ (.slice (some ⟨b,o,s⟩) m cap) v'):∃T,μ b=some T:=by
 cases h with
 | slice _ _ _ _ _ _ T h _ _=>exact⟨T,h⟩
 | Bk _ _ _ _ _ _ T h _ _ _=>exact⟨T,h⟩
 | DW _ _ _ T _ h _=>exact⟨T,h⟩
 | Cl _ _ _ _ _ _ T _ h _ _ _ _=>exact⟨T,h⟩
 | F9 _ _ _ T _ h _=>exact⟨T,h⟩
theorem K1 {μ:Ae} {b o:Nat} {s:Option Nat} {v':Value} (h:AH μ (.pointer (some ⟨b,o,s⟩)) v'):∃T,μ b=some T:=by
 cases h with
 | ptr _ _ T h=>exact⟨T,h⟩
 | HS _ _ _ T h=>exact⟨T,h⟩
 | HY _ _ _ T _ h=>exact⟨T,h⟩
theorem A5.TI {X:Ctx} {N:Nat} {Φ:Bz} {fn:FuncId} {t:Tr Value} {n:Nat} {todo:List B9} {ds:List Deferred} {r:Bool} {kd:CallKind} {rd:Option Nat} {cs:List Aj} {H:AA} (b j:Nat) (k:EK) (pre post:AL) {e:Nat} {ro:Bool}
 (hd:C6 todo=true) (hds:(cs.all fun f=>C6 f.todo)=true) (hj:∀(ν:Ae) v',AH ν (look t j) v'->∃c T,ν c=some T) (hb:H.get b=some (.cells (pre++ .slice none 0 0::post) e ro)) (hk:k.length≠0)
 (hr:A5 X N ⟨⟨fn,t,n,todo,ds,r,kd,rd⟩,cs,(H.alloc (.vec k [] false)).put b (.cells (pre++ .slice (some ⟨H.next,0,some 0⟩) 0 Aa::post) e ro)⟩ Φ):A5 X N ⟨⟨fn,t,n,todo,ds,r,kd,rd⟩,cs,H⟩ Φ:=by
 intro base W0 hb0 hok hplan cs0 μ fr cs' W hm;obtain⟨hH,hlaid,g,gs,hfr,hcs,hnd⟩:=hm;cases hfr with
 | plain fn t n tm todo todo' ds ds' r kd rd rd' ht hi2 hd2 hr2=>
  have hj2:=ht.2 j;obtain⟨_,T,hT⟩:=hj _ _ hj2;obtain⟨h1,h2⟩:=hH.FN hT hk false;have hlt:b < H.next:=hH.lt hb;have hb3:(H.alloc (.vec k [] false)).get b=some (.cells (pre++ .slice none 0 0::post) e ro):=by
   rw[AA.AM,JT (by omega)];exact hb
  have h3:=h1.swap (o1:= .cells (pre++ .slice (some ⟨H.next,0,some 0⟩) 0 Aa::post) e ro) hb3 (fun T' o' _ ho=>by
   cases ho with
   | cells _ _ _ c t lo hi he hc hr hf=>
    refine .cells T' _ e ro c t lo hi he ?_ hr hf;have hc2:=Kx (a1:= .slice (some ⟨H.next,0,some 0⟩) 0 Aa) (Ae.le_refl _) (fun v' hv=>by
     cases hv
     exact .DW _ 0 Aa _ none (Ae.Af _ _ _) (.inr ⟨GO _,me _⟩)) pre _ hc
    have e1:(pre++Value.slice none 0 0::post).length=(pre++Value.slice (some ⟨H.next,0,some 0⟩) 0 Aa::post).length:=by simp
    rw[<-e1];exact hc2) rfl rfl rfl (fun _ _ hv=>hv)
  have hcs2:=Rr (ks:=[]) (H':=(H.alloc (.vec k [] false)).put b (.cells (pre++ .slice (some ⟨H.next,0,some 0⟩) 0 Aa::post) e ro)) (hcs.mono (h2.keeps _)) hds;have e:cs.map (Ir [])=cs:=by
   refine(AAQ fun f _=>?_).trans (ABc _);cases f;rfl
  rw[e]at hcs2;exact hr base W0 hb0 hok hplan cs0 _ _ cs' W ⟨h3,hlaid.mono h2.le,[],[],.plain fn t n tm todo todo' ds ds' r kd rd rd' (ht.mono h2.le) (hi2.mono h2.le) (hd2.mono h2.le) (hr2.mono h2.le),hcs2,by simp⟩
 | drawn fn t n tm ops BJ idx D G k k' ds ds' kd rd rd' hD hk2 hd2 hr2=>cases hd
theorem A5.xR {X:Ctx} {N:Nat} {Φ:Bz} {fn:FuncId} {t:Tr Value} {n:Nat} {todo:List B9} {ds:List Deferred} {r:Bool} {kd:CallKind} {rd:Option Nat} {cs:List Aj} {H:AA} (b j:Nat) (k:EK) (pre post:AL) {e:Nat} {ro:Bool} {b' o m cap:Nat} {s:Option Nat}
 (hd:C6 todo=true) (hds:(cs.all fun f=>C6 f.todo)=true) (hj:look t j= .slice (some ⟨b',o,s⟩) m cap) (hb:H.get b=some (.cells (pre++ .slice none 0 0::post) e ro)) (hk:k.length≠0)
 (hr:A5 X N ⟨⟨fn,t,n,todo,ds,r,kd,rd⟩,cs,(H.alloc (.vec k [] false)).put b (.cells (pre++ .slice (some ⟨H.next,0,some 0⟩) 0 Aa::post) e ro)⟩ Φ):A5 X N ⟨⟨fn,t,n,todo,ds,r,kd,rd⟩,cs,H⟩ Φ:=
 TI b j k pre post hd hds (fun _ _ h=>by rw[hj]at h;obtain⟨T,hT⟩:=K7 h;exact⟨_,T,hT⟩) hb hk hr
theorem A5.Gh {X:Ctx} {N:Nat} {Φ:Bz} {fn:FuncId} {t:Tr Value} {n:Nat} {todo:List B9} {ds:List Deferred} {r:Bool} {kd:CallKind} {rd:Option Nat} {cs:List Aj} {H:AA} (b j:Nat) (k:EK) (pre post:AL) {e:Nat} {ro:Bool} {b' o:Nat} {s:Option Nat}
 (hd:C6 todo=true) (hds:(cs.all fun f=>C6 f.todo)=true) (hj:look t j= .pointer (some ⟨b',o,s⟩)) (hb:H.get b=some (.cells (pre++ .slice none 0 0::post) e ro)) (hk:k.length≠0)
 (hr:A5 X N ⟨⟨fn,t,n,todo,ds,r,kd,rd⟩,cs,(H.alloc (.vec k [] false)).put b (.cells (pre++ .slice (some ⟨H.next,0,some 0⟩) 0 Aa::post) e ro)⟩ Φ):A5 X N ⟨⟨fn,t,n,todo,ds,r,kd,rd⟩,cs,H⟩ Φ:=
 TI b j k pre post hd hds (fun _ _ h=>by rw[hj]at h;obtain⟨T,hT⟩:=K1 h;exact⟨_,T,hT⟩) hb hk hr
section
variable {X:Ctx} {N:Nat} {D:Nat->Prop} {f:FuncId} {Q Q':Ih}
end
theorem AJ.ke {base:Env} {W0 W:World} {μ:Ae} {H:AA} (h:AJ base W0 μ H W) {b n len cap e:Nat} {k:EK} {l:List (EK.C k)} {ro ro2:Bool} {pre post:AL}
 (hb:H.get b=some (.cells (pre++ .slice (some ⟨n,0,none⟩) len cap::post) e ro)) (hn:H.get n=some (.vec k l ro2)) (h0:0 < cap) (hl:len<=cap) (hlen:cap<=l.length) (hcap:cap<=9223372036854775807) (hk0:0 < k.length:=by decide):
 AJ base W0 μ (H.put b (.cells (pre++ .slice (some ⟨n,0,some 0⟩) len Aa::post) e ro)) W:=by
 refine h.swap hb (fun T o' _ ho=>?_) rfl rfl rfl (fun _ _ hv=>hv);cases ho with
 | cells _ _ _ c t lo hi he hc hr hf=>
  refine .cells T _ e ro c t lo hi he ?_ hr hf;have hc2:=Kx (a1:= .slice (some ⟨n,0,some 0⟩) len Aa) (Ae.le_refl _) (fun v' hv=>by
   cases hv with
   | slice _ _ _ _ cap' o' T' hm hcr ho=>
    have hcu:cap < Aa:=by unfold Aa;omega
    have hcap':cap'=cap:=by
     rcases hcr with⟨_,h2⟩ | ⟨h2,_⟩
     ·exact h2
     ·omega
    subst hcap';have hel:=h.elem hn hm;obtain⟨q,hq,hor⟩:=h.obj n _ hn T' hm;have Jl:l.length * k.length<=T'.r:=by
     cases hor with
     | vec _ _ _ _ hcs=>cases hcs with
      | cells _ _ _ c2 t2 lo2 hi2 he2 hc2 hr2 hf2=>
       have:=hc2.length;have e2:c2.toList.length=T'.d+T'.r:=by rw[ax];exact hr2
       have e3:(Ag k l).length=l.length * k.length:=BH _ _;rw[Rg,Tx,e2,e3]at this;omega
     | Du _ _ _ _ _ _=>simp at hlen;omega
    have hmul:cap' * k.length<=T'.r:=wQ (di _ hlen) Jl;have hpos:0 < cap' * k.length:=ABL h0 hk0;refine .Bk n 0 len Aa cap' o' T' hm (.inr ⟨GO _,by omega,hl,by rw[hel];omega,.inr hcap⟩) ?_ (by omega);rcases ho with ho | ho
    ·exact .inl (by omega)
    ·exact .inr ho) pre _ hc
  have e1:(pre++Value.slice (some ⟨n,0,none⟩) len cap::post).length=(pre++Value.slice (some ⟨n,0,some 0⟩) len Aa::post).length:=by simp
  rw[<-e1];exact hc2
end Go.AD
