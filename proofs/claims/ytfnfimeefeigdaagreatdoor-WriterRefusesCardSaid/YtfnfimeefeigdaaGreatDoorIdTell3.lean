/-
  Part of the proof: fixed runs of a program. No conditions.
-/
import Derived.Test.YtfnfimeefeigdaaGreatDoorIdDrawn
import Derived.Test.YtfnfimeefeigdaaGreatDoorIdVec
import Derived.Defers
import Derived.Recover
noncomputable section
namespace Go.AB
section
variable {X:Ctx}{base:Env}{W0:World}{Z:AW}{H:AA}{W:World}
theorem XK(hok:En X base W0)(hplan:HR X){c c':BU}{fr:Frame}{cs' cs0:List Frame}(hm:JD X base W0 Z c fr cs' W)(h:Eb X c=some c'):
 DW X base W0 cs0 c' (lone fr (cs'++cs0) W):=by
 obtain⟨hH,hlaid,g,gs,hfr,hcs,hnd⟩:=hm;obtain⟨f0,cs,H⟩:=c;simp only at hH hfr hcs;cases hfr with
 | drawn fn t n tm ops BP idx D G k k' ds ds' kd rd rd' hD hk hd hr=>exact dq hok hH hlaid hD hk hd hr hcs hnd h
 | plain fn t n tm todo todo' ds ds' r kd rd rd' ht hi hd hrd=>
  unfold Eb at h;simp only at h;cases r with
  | true=>
   simp only[AAO]at h;exact WE hH hlaid ht hi hd hrd hcs hnd h
  | false=>
   simp only[AAR]at h;have fin:∀(k2:List Cs)(k2':List Item) ,Et Z k2 k2'->step X.P (lone ⟨fn,tm,todo',ds',.run,kd,rd'⟩ (cs'++cs0) W)= .next (lone ⟨fn,tm,k2',ds',.run,kd,rd'⟩ (cs'++cs0) W)->
    c'=⟨⟨fn,t,n,k2,ds,false,kd,rd⟩,cs,H⟩->DW X base W0 cs0 c' (lone ⟨fn,tm,todo',ds',Tx false,kd,rd'⟩ (cs'++cs0) W):=by
    rintro k2 k2' hk2 hs rfl;exact⟨Z,_,cs',W,.one hs,hH,hlaid,[],gs,.plain fn t n tm k2 k2' ds ds' false kd rd rd' ht hk2 hd hrd,hcs,hnd⟩
   cases hi with
   | nil=>exact Lw hH hlaid ht .nil hd hrd hcs hnd (.inl ⟨rfl,rfl⟩) h
   | @cons it it' k k' h1 hk=>
    simp only at h;cases h1 with
    | Ks ops l idx hidx=>
     simp only at h;split at h
     .cases idx with
      | nil=>exact fin k k' hk OY (by cases h;rfl)
      | cons i idx=>simp at hidx
     .rename_i o rest;cases idx with
      | nil=>simp at hidx
      | cons i idx=>
       simp only[AAn,AAd]at hidx;split at h
       .rename_i hw;refine XA hok hH hlaid hidx.1 hd hrd hcs hnd (fun ds1 ds1' hd1=> .plain fn t n tm _ _ ds1 ds1' false kd rd rd' ht (.cons (.Ks ops _ _ (by simp[hidx.1,hidx.2])) hk) hd1 hrd) (fun x _=>NA hlaid ht x) (L7 ht hw) h
       .rename_i hw;split at h
        .rename_i fr1 hfin;cases h
         refine⟨Z,_,cs',W,.one (P3 hidx.1 (L7 ht hw)),hH,hlaid,[],gs,?_,hcs,hnd⟩;exact EE (.plain fn t n tm _ _ ds ds' false kd rd rd' ht (.cons (.Ks ops (o::rest) (i::idx) (by simp[hidx.1,hidx.2])) hk) hd hrd) (AF.undef Z) hfin
        .cases h
       .cases h
    | code c=>
     simp only at h;split at h
     .rename_i a b;exact fin _ _ (.cons (.code a) (.cons (.code b) hk)) wi (by cases h;rfl)
     .rename_i id ops;exact fin _ _ (.cons (.Ks ops ops.toList _ (eM ops)) hk) lH (by cases h;rfl)
     .rename_i id ops;split at h
      .rename_i p hp;cases h
       obtain⟨hmix,hpl⟩:=hplan;obtain⟨q1,q2,q3⟩:=hpl ops p hp;obtain⟨s1,s2⟩:=lZ q2 q3 (W.tape W.drawn (.order fn id));have hdr:=uy (P:=X.P) (W:=W) (fn:=fn) (tm:=tm) (k:=k') (ds:=ds') (kd:=kd) (rd:=rd') (cs:=cs'++cs0) (id:=id) (ops:=ops);rw[hmix]at hdr;refine⟨Z,_,cs',_,.one hdr,hH.drawn _,hlaid,[],gs,?_,hcs,hnd⟩;refine .drawn fn t n tm ops p _ [] [] k k' ds ds' kd rd rd' ⟨q1,q2,q3,s1,fun i o ho hni=>absurd (s2 i (Array.getElem?_eq_some_iff.1 ho).1) hni,(fun _ _ _ h=>by cases h),ht.1,fun u _=>ht.2 u,(fun _ _ _ h=>by cases h),(fun _ _ _ _ h=>by cases h),by simp,fun b hb=>by simp at hb⟩ hk hd hrd
      .cases h
     .rename_i cnd a b;have hev:=NA (fr:=⟨fn,tm,.code (.cond cnd a b)::k',ds',.run,kd,rd'⟩) hlaid ht cnd;split at h
      .rename_i x hx;rw[hx]at hev;have hev':Frame.eval ⟨fn,tm,.code (.cond cnd a b)::k',ds',.run,kd,rd'⟩ cnd= .bool x:=by
        generalize Frame.eval ⟨fn,tm,.code (.cond cnd a b)::k',ds',.run,kd,rd'⟩ cnd=q at hev;cases hev;rfl
       exact fin _ _ (.cons (.code _) hk) (sb hev') (by cases h;rfl)
      .cases h
     .exact fin _ _ hk sg (by cases h;rfl)
     .exact fin _ _ hk qE (by cases h;rfl)
     .rename_i id b;exact fin _ _ (.cons (.code b) (.cons (.inBlock id) hk)) nL (by cases h;rfl)
     .rename_i b;exact fin _ _ (.cons (.code b) (.cons (.inLoop b) hk)) uo (by cases h;rfl)
     .rename_i b;exact fin _ _ (.cons (.code b) (.cons (.inScope b) hk)) pQ (by cases h;rfl)
     .rename_i id;have hex:=Ya (id:=id) hk;split at h
      .rename_i k2 hq;obtain⟨k2',q1,q2⟩:=hex.1 k2 hq;exact fin _ _ q2 (tK q1) (by cases h;rfl)
      .rename_i hq;exact Lw hH hlaid ht (.cons (.code _) hk) hd hrd hcs hnd (.inr (.inr ⟨id,k',rfl,hex.2 hq,rfl⟩)) h
     .exact Lw hH hlaid ht (.cons (.code _) hk) hd hrd hcs hnd (.inr (.inl ⟨k',rfl,rfl⟩)) h
     .rename_i f ps a b;split at h
      .rename_i l;cases hrd with
       | some _ T hT=>
        split at h
        .rename_i q hget;obtain⟨o',ho',hor⟩:=hH.obj l _ hget T hT;cases hor with
         | loop _ aa R hta hda=>
          have hal:=hH.alloc (T:=⟨W.heap.size,0,0,0⟩) (o:= .loop ⟨.ready,none,fn,t,n,ps,a,b,q.defers⟩) rfl (.loop ⟨W.heap.size,0,0,0⟩ ⟨.ready,none,fn,t,n,ps,a,b,q.defers⟩ tm R ht hda);obtain⟨g1,g2⟩:=hal;refine Lb hok (mark:=[]) (T:=⟨W.heap.size,0,0,0⟩) g1 (hlaid.mono g2.le) (ht.mono g2.le) (hk.mono g2.le) (hd.mono g2.le) (.some l T (g2.le _ _ hT)) (hcs.mono (g2.keeps gs)) hnd (AW.AY _ _ _) (Qf ho') h
        .cases h
      .cases hrd
       have hal1:=hH.alloc (T:=⟨W.heap.size,0,0,0⟩) (o:= .deferred (some [])) (o':= .deferred (some [])) rfl (.deferred _ [] [] .nil);obtain⟨g1,g2⟩:=hal1;have hal2:=g1.alloc (T:=⟨W.heap.size+1,0,0,0⟩) (o:= .loop ⟨.ready,none,fn,t,n,ps,a,b,H.next⟩) (by simp) (.loop ⟨W.heap.size+1,0,0,0⟩ ⟨.ready,none,fn,t,n,ps,a,b,H.next⟩ tm ⟨W.heap.size,0,0,0⟩ (ht.mono g2.le) (AW.AY _ _ _));obtain⟨g3,g4⟩:=hal2;have g5:=g2.trans g4;refine Lb hok (mark:=[{ target:= .collected W.heap.size,args:=#[] }]) (T:=⟨W.heap.size+1,0,0,0⟩) g3 (hlaid.mono g5.le) (ht.mono g5.le) (hk.mono g5.le) ?_ .none (hcs.mono (g5.keeps gs)) hnd (AW.AY _ _ _) Rk h;exact .cons ⟨.collected H.next ⟨W.heap.size,0,0,0⟩ (g4.le _ _ (AW.AY _ _ _)),.nil⟩ (hd.mono g5.le)
     .cases h
    | inBlock id=>exact fin _ _ hk dJ (by cases h;rfl)
    | inScope b=>exact fin _ _ hk bg (by cases h;rfl)
    | inLoop b=>exact fin _ _ (.cons (.code b) (.cons (.inLoop b) hk)) jk (by cases h;rfl)
    | inRangeFunc l T hT=>cases h
    | beginRound=>
     simp only at h;split at h
     .rename_i l;cases hrd with
      | some _ T hT=>
       split at h
       .rename_i q hget;split at h
        .rename_i hst;cases h
         obtain⟨r,hr,hst',hpe,hput⟩:=RZ hH hget hT;obtain⟨p1,p2⟩:=hput .busy q.pending;refine⟨Z,_,cs',_,.one (TV hr (by rw[hst',hst])),?_,hlaid,[],gs,.plain fn t n tm k k' ds ds' false kd (some l) (some T.c) ht hk hd (.some l T hT),hcs.mono (p2.keeps gs),hnd⟩;have e1:({ r with state:=LoopState.busy }:Loop)={ r with state:= .busy,pending:=q.pending }:=by rw[<-hpe]
         rw[e1];exact p1
        .cases h
       .cases h
     .cases h
    | endRangeFunc l T hT=>
     simp only at h;split at h
     .rename_i q hget;obtain⟨r,hr,hst',hpe,hput⟩:=RZ hH hget hT;obtain⟨p1,p2⟩:=hput .exhausted q.pending;have p1':AH base W0 Z (H.put l (.loop { q with state:= .exhausted })) { W with heap:=W.heap.setIfInBounds T.c (.loop { r with state:= .exhausted }) }:=by
       have e1:({ r with state:=LoopState.exhausted }:Loop)={ r with state:= .exhausted,pending:=q.pending }:=by rw[<-hpe]
       rw[e1];exact p1
      split at h
      .cases h
      .rename_i hnb;have hs:r.state≠ .busy:=by rw[hst'];exact hnb
       have hce:=dv (P:=X.P) (fn:=fn) (tm:=tm) (k:=k') (ds:=ds') (kd:=kd) (rd:=rd') (cs:=cs'++cs0) hr hs;split at h
       .rename_i hp;cases h
        have htd:(r.pending.map Item.code).toList++k'=k':=by rw[hpe,hp];rfl
        rw[htd]at hce;exact⟨Z,_,cs',_,.one hce,p1',hlaid,[],gs,.plain fn t n tm k k' ds ds' false kd rd rd' ht hk hd hrd,hcs.mono (p2.keeps gs),hnd⟩
       .rename_i j hp;cases h
        have htd:(r.pending.map Item.code).toList++k'= .code j::k':=by rw[hpe,hp];rfl
        rw[htd]at hce;exact⟨Z,_,cs',_,.one hce,p1',hlaid,[],gs,.plain fn t n tm _ _ ds ds' false kd rd rd' ht (.cons (.code j) hk) hd hrd,hcs.mono (p2.keeps gs),hnd⟩
     .cases h
end
section
variable {X:Ctx}{base:Env}{W0:World}{Z:AW}{H:AA}{W:World}
theorem eP(n:Nat)(c:BU):b9 X (n+1) c=match Eb X c with
 | some c'=>b9 X n c'
 | none=>none:=rfl
theorem oW(hok:En X base W0)(hplan:HR X){cs0:List Frame}:∀(n:Nat)(c c':BU)(Z:AW)(fr:Frame)(cs:List Frame)(W:World),b9 X n c=some c'->JD X base W0 Z c fr cs W->
 ∃μ' fr1 cs1 W1,Steps X.P (lone fr (cs++cs0) W) (lone fr1 (cs1++cs0) W1)/\JD X base W0 μ' c' fr1 cs1 W1:=by
 intro n;induction n with
 | zero=>intro c c' Z fr cs W h hm;cases h;exact⟨Z,fr,cs,W,.refl _ _,hm⟩
 | succ n ih=>
  intro c c' Z fr cs W h hm;rw[eP]at h;split at h
  .rename_i c1 hs;obtain⟨μ1,fr1,cs1,W1,s1,m1⟩:=XK (cs0:=cs0) hok hplan hm hs;obtain⟨μ2,fr2,cs2,W2,s2,m2⟩:=ih c1 c' μ1 fr1 cs1 W1 h m1;exact⟨μ2,fr2,cs2,W2,s1.trans s2,m2⟩
  .cases h
def EV(X:Ctx)(f:FuncId)(c:BU):Option (Value × AA):=
 match c with
 | ⟨⟨fn,t,_,todo,ds,r,kd,_⟩,cs,H⟩=>
  match cs,ds,r,kd,todo with
  | [],[],true,.normal,_=>bif Nat.beq fn f then
   match KU X fn t H with
   | some v=>some (v,H)
   | none=>none
   else none
  | _,_,_,_,_=>none
def Du(f:FuncId)(t:Tr Value)(n:Nat)(code:Code)(H:AA):BU:=⟨⟨f,t,n,[.code code],[],false,.normal,none⟩,[],H⟩
theorem LA(hH:AH base W0 Z H W)(hlaid:BX X Z){f:FuncId}{n:Nat}{code:Code}(he:entry X.P f=some (n,code)){args:AL}{args':BE}(ha:Af Z args args'.toList)(hn:args.length<=n):
 JD X base W0 Z (Du f (CP 0 args .leaf) n code H) (Frame.enter X.P f args' .normal) [] W:=by
 refine⟨hH,hlaid,[],[],?_,.nil,by simp⟩;rw[P4 he];exact .plain f _ n _ _ _ [] [] false .normal none none (Nz ha hn) (.cons (.code code) .nil) .nil .none
theorem KA{f:FuncId}{c:BU}{fr:Frame}{cs:List Frame}{v:Value}{H':AA}(hm:JD X base W0 Z c fr cs W)(hd:EV X f c=some (v,H')):
 cs=[]/\fr.fn=f/\∃v',fr.leaving X.P W (.returned v')/\AH base W0 Z H' W/\AF Z v v':=by
 obtain⟨hH,hlaid,g,gs,hfr,hcs,hnd⟩:=hm;unfold EV at hd;obtain⟨⟨fn,t,n,todo,ds,r,kd,rd⟩,cs1,H1⟩:=c;simp only at hd hfr hcs hH;split at hd
 .rename_i x1 x2 x3 x4 x5;cases hcs
  cases hb:Nat.beq fn f
  .simp[hb]at hd
  .simp only[hb,AAO]at hd;have hf:=AAP hb;split at hd
   .rename_i v0 hres;cases hd
    cases hfr with
    | plain _ _ _ tm _ todo' _ ds' _ _ _ rd' ht hi hdd hr=>
     cases hdd
     obtain⟨fn',v',h1,h2,h3⟩:=OL hH ht hres;exact⟨rfl,hf,v',⟨rfl,rfl,rfl,fn',h1,h2⟩,hH,h3⟩
   .cases hd
 .cases hd
def I4:DD->Nat->AA
 | [],n=>⟨.leaf,n⟩
 | (g,cs)::r,n=>(I4 r n).put g (.cells cs 0 true)
def GL(l:DD):AW:=fun b=>match l.find? (fun p=>Nat.beq b p.1)with
 | some p=>some ⟨p.1,0,p.2.length,0⟩
 | none=>none
theorem F9(l:DD)(n:Nat):(I4 l n).next=n:=by
 induction l with
 | nil=>rfl
 | cons p l ih=>exact ih
theorem JG:∀(l:DD)(n b:Nat)(o:AJ),(l.map Prod.fst).Nodup->(I4 l n).get b=some o->∃cs,(b,cs)∈l/\o= .cells cs 0 true:=by
 intro l;induction l with
 | nil=>intro n b o _ h;simp[I4,AA.get,Tr.RA]at h
 | cons p l ih=>
  intro n b o hnd h;obtain⟨g,cs⟩:=p;simp only[I4]at h;rw[AA.AQ]at h;simp only[AAn,ABS]at hnd
  by_cases e:b=g
  .subst e;rw[AAZ rfl]at h;cases h;exact⟨cs,by simp,rfl⟩
  .rw[AAW e]at h;obtain⟨cs',h1,h2⟩:=ih n b o hnd.2 h;exact⟨cs',by simp[h1],h2⟩
theorem LH{l:DD}(_hnd:(l.map Prod.fst).Nodup){b:Nat}{T:BQ}(h:GL l b=some T):∃cs,(b,cs)∈l/\T=⟨b,0,cs.length,0⟩:=by
 unfold GL at h;split at h
 .rename_i p hp;cases h
  have h1:=List.find?_some hp;have h2:=AC4 hp;have e:=AAP h1;obtain⟨g,cs⟩:=p;simp only at e;subst e;exact⟨cs,h2,rfl⟩
 .cases h
theorem mem_unique{l:DD}(hnd:(l.map Prod.fst).Nodup){b:Nat}{x y:AL}(h1:(b,x)∈l)(h2:(b,y)∈l):x=y:=by
 induction l with
 | nil=>cases h1
 | cons p l ih=>
  simp only[AAn,ABS]at hnd;rcases List.mem_cons.1 h1 with e1 | h1'<;>rcases List.mem_cons.1 h2 with e2 | h2'
  .rw[<-e1]at e2;cases e2;rfl
  .exact absurd (List.mem_map.2 ⟨_,h2',rfl⟩) (by rw[<-e1]at hnd;exact hnd.1)
  .exact absurd (List.mem_map.2 ⟨_,h1',rfl⟩) (by rw[<-e2]at hnd;exact hnd.1)
  .exact ih hnd.2 h1' h2'
theorem IG:∀(l:AL),l.all flat=true->Af Z l l
 | [],_=> .nil
 | a::l,h=>by
  simp only[ABN,AAQ]at h;exact .cons (D4 h.1) (IG l h.2)
theorem Oc.rel{l l':AL}(h:Oc l l')(Z:AW):Af Z l l':=by
 cases h with
 | plain _ hf=>exact IG _ hf
 | iface te pe=>exact .cons (.Bo _) .nil
theorem MG(hW:Dt X base W0)(hmu:base.gN.le (GL X.laid))(hsz:∀i,base.K i->i < W0.heap.size){n:Nat}(hn:∀p∈X.laid,p.1 < n):AH base W0 (GL X.laid) (I4 X.laid n) W0/\BX X (GL X.laid):=by
 obtain⟨hnd,hall⟩:=hW;refine⟨⟨?_,?_,?_,?_,?_,hsz,fun _ _=>rfl,rfl,rfl,?_,hmu,AAT _⟩,?_⟩
 .intro b o hb T hT;obtain⟨cs,h1,rfl⟩:=JG _ _ _ _ hnd hb;obtain⟨cs',h2,rfl⟩:=LH hnd hT;obtain rfl:=mem_unique hnd h1 h2;obtain⟨_,a,t,fz,ha,hl⟩:=hall _ h1;have hrel:=hl.rel (GL X.laid);have hlen:=hrel.length;have hlen:cs.length=a.toList.length:=hlen;refine⟨_,ha,.cells _ _ _ true a t fz.1 fz.2 rfl ?_ ?_ (fun e=>by cases e)⟩
  .show Af _ cs (List.take cs.length (List.drop 0 a.toList));rw[AA5,hlen,ABh];exact hrel
  .have hlen:cs.length=a.toList.length:=hlen;have e:a.toList.length=a.size:=rfl;show a.size=0+cs.length;omega
 .intro b o hb hr T hT;obtain⟨cs,h1,rfl⟩:=JG _ _ _ _ hnd hb;cases hr
 .intro b1 b2 o1 o2 _ _ T1 T2 h1 h2 _ _ hc;obtain⟨_,_,rfl⟩:=LH hnd h1;obtain⟨_,_,rfl⟩:=LH hnd h2;exact fun _=>hc
 .intro b hb;rw[F9]at hb;refine⟨?_,?_⟩
  .cases hg:(I4 X.laid n).get b with
   | none=>rfl
   | some o=>
    obtain⟨cs,h1,_⟩:=JG _ _ _ _ hnd hg;have:=hn _ h1;simp only at this;omega
  .cases hg:GL X.laid b with
   | none=>rfl
   | some T=>
    obtain⟨cs,h1,_⟩:=LH hnd hg;have:=hn _ h1;simp only at this;omega
 .intro b T hT;obtain⟨cs,h1,rfl⟩:=LH hnd hT;exact hsz _ (hall _ h1).1
 .refine⟨fun _ _=>False,?_,?_⟩
  .intro b a ro T hb;obtain⟨cs,h1,e⟩:=JG _ _ _ _ hnd hb;cases e
  .intro b a ro T hb;obtain⟨cs,h1,e⟩:=JG _ _ _ _ hnd hb;cases e
 .intro g hg;obtain⟨p,hp,he⟩:=List.any_eq_true.1 hg;have e:=AAP he;cases hm:GL X.laid g with
  | none=>
   unfold GL at hm;split at hm
   .cases hm
   .rename_i hf;rw[List.find?_eq_none]at hf;exact absurd he (hf p hp)
  | some T=>
   obtain⟨cs,h1,rfl⟩:=LH hnd hm;exact⟨_,rfl,rfl,rfl,rfl,fun _ h'=>congrArg List.length (mem_unique hnd h1 h')⟩
def Env.at(base:Env)(W:World):Env:={ base with K:=fun i=>i < W.heap.size,gN:=fun _=>none }
theorem none_le(Z:AW):AW.le (fun _=>none) Z:=fun _ _ h=>by cases h
theorem AH.carry{W':World}(h:AH base W0 Z H W)(hs:W.heap.size<=W'.heap.size)(hold:∀i,i < W.heap.size->W'.heap[i]? = W.heap[i]?)(ho:W'.output=W.output)(hos:W'.os=W.os):AH base W0 Z H W':=
 ⟨fun b o hb T hT=>let ⟨o',h1,h2⟩:=h.obj b o hb T hT;⟨o',by rw[hold _ (h.bound b T hT)];exact h1,h2⟩,h.own,h.inj,h.fresh,fun b T hT=>ABR (h.bound b T hT) hs,fun i hi=>ABR (h.size i hi) hs,
  fun i hi=>by rw[hold i (h.size i hi)];exact h.below i hi,by rw[ho];exact h.out,by rw[hos];exact h.os,
  let ⟨φ,q⟩:=h.abs;⟨φ,fun b a ro T h1 h2=>let ⟨r1,r2⟩:=q.rep b a ro T h1 h2;⟨Ga.loc _ _ _ _ _ hs r1 (fun i hi=>hold i ((Ga.JO _ _ _ _ r1).2 i hi)),r2⟩,q.C3⟩,h.le,ABs h.grow hs⟩
theorem Dt.carry(hW:Dt X base W0)(h:AH base W0 Z H W):Dt X (base.at W) W:=by
 refine⟨hW.1,fun p hp=>?_⟩;obtain⟨h1,a,t,fz,h3,h4⟩:=hW.2 p hp;exact⟨h.size _ h1,a,t,fz,by rw[h.below _ h1];exact h3,h4⟩
theorem Mq{b0:Env}{W W':World}{μ':AW}{H':AA}(h:AH (b0.at W) W μ' H' W'):W.heap.size<=W'.heap.size:=h.grow
end
theorem nh{P:Program}{ops:Array Oper}{done:AP}{x:Oper}:Iy ops (Y0 P ops.toList done x):=by
 intro e he;unfold Y0 at he;obtain⟨j,_,hj⟩:=List.mem_filterMap.1 he;split at hj
 .rename_i o ho;cases hb:(Nat.beq (CI P o) 0&& !((Jy ops.toList x).any (Nat.beq j)))
  .rw[hb]at hj;cases hj
  .rw[hb]at hj;cases hj
   show ops[j]? = some o;rw[<-AAx];exact ho
 .cases hj
theorem bS{P:Program}{ops:Array Oper}:∀(f:Nat)(done:AP)(p:List PE),N8 P ops.toList f done=some p->Iy ops p:=by
 have key:∀{q:Oper × Nat->Bool}{o:Oper}{i:Nat},ops.toList.zipIdx.find? q=some (o,i)->ops[i]? = some o:=by
  intro q o i h;have:=AC4 h;have:=List.mem_zipIdx_iff_getElem?.1 this;rw[<-AAx];exact this
 intro f;induction f with
 | zero=>
  intro done p h;unfold N8 at h;cases hb:Nat.beq done.length ops.toList.length
  .rw[hb]at h;cases h
  .rw[hb]at h;cases h;intro e he;cases he
 | succ f ih=>
  intro done p h;unfold N8 at h;split at h
  .rename_i o i hf;rw[AAV]at h;obtain⟨r,hr,rfl⟩:=h;intro e he;rcases List.mem_cons.1 he with rfl | he
   .exact key hf
   .exact ih _ _ hr e he
  .split at h
   .rename_i o i hf;rw[AAV]at h;obtain⟨r,hr,rfl⟩:=h;intro e he;rcases List.mem_cons.1 he with rfl | he
    .exact key hf
    .rcases List.mem_append.1 he with he | he
     .exact nh e he
     .exact ih _ _ hr e he
   .cases h
theorem Gq{X:Ctx}(hm:X.P.follows .mixedOrders=true)(hp:X.BP=MN X.P):HR X:=by
 refine⟨hm,fun ops p h=>?_⟩;rw[hp]at h;unfold MN at h;split at h
 .rename_i p' hg;cases hb:(MI X.P ops&&Ev X.P ops [] p')
  .rw[hb]at h;cases h
  .rw[hb]at h;cases h
   rw[AAQ]at hb;exact⟨hb.1,bS _ _ _ hg,hb.2⟩
 .cases h
def Lj(m:Tr AJ):AP->Tr AJ
 | []=> .leaf
 | i::r=>(Lj m r).put i (m.get i)
def Nu:List Cs->Bool
 | .E0 _ _::_=>false
 | _=>true
def Uf:Value->Option Nat
 | .pointer (some ⟨b,_,_⟩)=>some b
 | .slice (some ⟨b,_,_⟩) _ _=>some b
 | _=>none
def Jv(P:Program)(ids:AP)(f:Ae):Bool:=
 match f.todo with
 | .E0 ops _::_=>ops.toList.all fun o=> !(Nat.beq (CI P o) 1)||(match o.dst with
  | some d=>match Uf (look f.tmps d)with
   | some b=>ids.any (Nat.beq b)
   | none=>true
  | none=>true)
 | _=>true
def Rt(P:Program)(ids:AP)(c:BU):Bool:=Nu c.fr.todo&&c.cs.all fun f=>Jv P ids f
def shrink(P:Program)(ids:AP)(c:BU):Option BU:=
 match c with
 | ⟨fr,cs,H⟩=>bif Rt P ids ⟨fr,cs,H⟩then some ⟨fr,cs,⟨Lj H.m ids,H.next⟩⟩else none
def L0(X:Ctx)(n:Nat)(ids:AP)(c:BU):Option BU:=
 match b9 X n c with
 | some c'=>shrink X.P ids c'
 | none=>none
def Pg:AP->Tr Value->Tr Value
 | [],t=>t
 | i::r,t=>(Pg r t).put i (some Bo)
def forget(l:AP)(c:BU):Option BU:=
 match c with
 | ⟨⟨fn,t,n,todo,ds,r,kd,rd⟩,cs,H⟩=>bif Nu todo then some ⟨⟨fn,Pg l t,n,todo,ds,r,kd,rd⟩,cs,H⟩else none
inductive GO(X:Ctx):BU->Cy where
 | run {c c':BU} (n:Nat) (h:b9 X n c=some c'):GO X c c'
 | shrink {c c':BU} (ids:AP) (h:Go.AB.shrink X.P ids c=some c'):GO X c c'
 | forget {c c':BU} (l:AP) (h:Go.AB.forget l c=some c'):GO X c c'
 | trans {c c1 c2:BU} (h:GO X c c1) (h':GO X c1 c2):GO X c c2
theorem GO.L0{X:Ctx}{c c':BU}{n:Nat}{ids:AP}(h:L0 X n ids c=some c'):GO X c c':=by
 unfold AB.L0 at h;split at h
 .rename_i c1 h1;exact .trans (.run n h1) (.shrink ids h)
 .cases h
theorem dt(m:Tr AJ):∀(ids:AP)(b:Nat)(o:AJ),(Lj m ids).get b=some o->m.get b=some o:=by
 intro ids;induction ids with
 | nil=>intro b o h;simp[Lj,Tr.RA]at h
 | cons i r ih=>
  intro b o h;simp only[Lj]at h;rw[Tr.AQ]at h
  by_cases e:b=i
  .subst e;rw[AAZ rfl]at h;exact h
  .rw[AAW e]at h;exact ih b o h
section
variable {X:Ctx}{base:Env}{W0:World}{Z:AW}{H:AA}{W:World}
theorem AH.sub{H':AA}(h:AH base W0 Z H W)(hs:∀b o,H'.get b=some o->H.get b=some o)(hn:H'.next=H.next):AH base W0 Z H' W:=
 ⟨fun b o hb=>h.obj b o (hs b o hb),fun b o hb=>h.own b o (hs b o hb),fun b1 b2 o1 o2 h1 h2=>h.inj b1 b2 o1 o2 (hs _ _ h1) (hs _ _ h2),
  fun b hb=>(by
   have hb':H.next<=b:=by rw[<-hn];exact hb
   refine⟨?_,(h.fresh b hb').2⟩;cases hg:H'.get b with
   | none=>rfl
   | some o=>
    have:=(h.fresh b hb').1;rw[hs _ _ hg]at this;cases this),
  h.bound,h.size,h.below,h.out,h.os,
  let ⟨φ,q⟩:=h.abs;⟨φ,fun b' a ro T' h1 h2=>q.rep b' a ro T' (hs _ _ h1) h2,fun b' a ro T' h1 h2 b2 o2 T2 h3 h4 h5=>q.C3 b' a ro T' (hs _ _ h1) h2 b2 o2 T2 (hs _ _ h3) h4 h5⟩,h.le,h.grow⟩
theorem fm(m:Tr AJ):∀(ids:AP)(b:Nat),b∈ids->(Lj m ids).get b=m.get b:=by
 intro ids;induction ids with
 | nil=>intro b h;cases h
 | cons i r ih=>
  intro b h;simp only[Lj,Tr.AQ]
  by_cases e:b=i
  .rw[AAZ e,e]
  .rw[AAW e];rcases List.mem_cons.1 h with h | h
   .exact absurd h e
   .exact ih b h
theorem YR{P:Program}{ρ:Operand->Value}{o:Oper}{H H':AA}{v:Value}(hc:CI P o=1)(hi:L8 P ρ o H=some (v,H')):Uf v=some H.next:=by
 have hv:=bL (ρ:=ρ) hc H;unfold L8 at hi;rw[hv]at hi;simp only at hi;cases ho:o.op<;>simp only[CI,ho]at hc<;>try (first | (cases hc;done) | (split at hc<;>cases hc;done))
 all_goals simp only[O2,ho]at hi
 .split at hi
  .cases hi;rfl
  .cases hi
 .rename_i t x;cases hn:Ei (ρ x)
  .simp[hn]at hi
  .simp only[hn,AAO,AAN,AAm]at hi;obtain⟨rfl,_⟩:=hi;rfl
 .rename_i t len parts;cases hn:(Nat.blt len AT&&parts.toList.all (fun p=>Ei (ρ p.2)))
  .simp only[hn,AAR]at hi;cases hi
  .simp only[hn,AAO,HG]at hi;cases hu:P.underlying t with
   | none=>simp[hu]at hi
   | some d=>
    cases d<;>simp only[hu]at hi<;>try (cases hi;done)
    rename_i e;cases hs:D6 P e with
    | none=>simp[hs]at hi
    | some n=>
     cases hz:Is P e with
     | none=>simp[hs,hz]at hi
     | some z=>
      simp only[hs,hz]at hi;cases hq:Nat.beq (len * n) 0
      .simp only[hq,AAR]at hi;cases hb:Nat.ble (len * n) 16777216
       .simp only[hb,AAR]at hi;cases hi
       .simp only[hb,AAO,AAV]at hi;obtain⟨l,_,he⟩:=hi;cases he;rfl
      .simp only[hq,AAO]at hi;split at hi
       .cases hi;rfl
       .cases hi
 .simp only[IC]at hi;split at hi
  .split at hi
   .rename_i i z _ _;rename_i l c _ _;revert hi;generalize (Nat.ble _ _&&Nat.ble _ _&&Nat.blt _ _)=q;cases q
    .intro hi;cases hi
    .intro hi;cases hi;rfl
   .cases hi
  .cases hi
theorem Hi.kept{ids:AP}{g:AP}{f:Ae}{f':Frame}(h:Hi X Z H g f f')(hg:Jv X.P ids f=true):Hi X Z ⟨Lj H.m ids,H.next⟩ g f f':=by
 cases h with
 | plain fn t n tm todo todo' ds ds' r kd rd rd' ht hi hd hr=>exact .plain fn t n tm todo todo' ds ds' r kd rd rd' ht hi hd hr
 | Ka fn t n tm ops x o rest idx D G k k' ds ds' kd rd rd' ho hD hkk hd hr=>
  simp only[Jv,ACG]at hg;refine .Ka fn t n tm ops x o rest idx D G k k' ds ds' kd rd rd' ho ⟨hD.stat,hD.wf,hD.Uu,hD.J7,hD.Wv,hD.ev,hD.sz,hD.tmp,?_,hD.ep,hD.gO,hD.eY⟩ hkk hd hr;intro i o' ho' h1 h2;obtain⟨d,e1,e0,e2⟩:=hD.mB i o' ho' h1 h2;refine⟨d,e1,e0,?_⟩;rcases e2 with e2 | e2 | ⟨e2,e3,b,hb,obj,mk,a1,a2,a3,a4,a5⟩
  .exact .inl e2
  .exact .inr (.inl e2)
  .refine .inr (.inr ⟨e2,e3,b,hb,obj,mk,a1,a2,a3,a4,?_⟩);have hm:o'∈ops.toList:=by
    rw[<-AAx]at ho';exact AA1 ho'
   have hk:=hg o' hm;have hbl:Uf (look t d)=some b:=by
    rw[a1];exact YR e3 (a2 ⟨.leaf,b⟩)
   simp only[e3,e1,hbl,AAu,ACt,ABw,ACs]at hk;obtain⟨b',hb',hbb⟩:=hk;have hbe:=AAP hbb;subst hbe;show(Lj H.m ids).get b=some obj;rw[fm _ _ _ hb'];exact a5
theorem EJ.kept{ids:AP}{gs:AP}{l:List Ae}{l':List Frame}(h:EJ X Z H gs l l')(hg:l.all (fun f=>Jv X.P ids f)=true):EJ X Z ⟨Lj H.m ids,H.next⟩ gs l l':=by
 induction h with
 | nil=>exact .nil
 | cons h _ ih=>
  simp only[ABN,AAQ]at hg;exact .cons (h.kept hg.1) (ih hg.2)
theorem YI{ids:AP}{c c':BU}{fr:Frame}{cs:List Frame}(h:shrink X.P ids c=some c')(hm:JD X base W0 Z c fr cs W):JD X base W0 Z c' fr cs W:=by
 obtain⟨f,l,H⟩:=c;unfold shrink at h;cases hb:Rt X.P ids ⟨f,l,H⟩
 .simp only[hb,AAR]at h;cases h
 .simp only[hb,AAO]at h;cases h
  simp only[Rt,AAQ]at hb;obtain⟨h1,h2,g,gs,h3,h4,h5⟩:=hm;refine⟨h1.sub (fun b o=>dt H.m ids b o) rfl,h2,g,gs,?_,h4.kept hb.2,h5⟩;simp only at h3 hb;cases h3 with
  | plain fn t n tm todo todo' ds ds' r kd rd rd' ht hi hd hr=>exact .plain fn t n tm todo todo' ds ds' r kd rd rd' ht hi hd hr
  | drawn fn t n tm ops BP idx D G k k' ds ds' kd rd rd' hD hk hd hr=>have:=hb.1;cases this
theorem XQ{n:Nat}{tm:BE}:∀(l:AP){t:Tr Value},Gt Z t n tm->Gt Z (Pg l t) n tm:=by
 intro l;induction l with
 | nil=>intro t h;exact h
 | cons i r ih=>
  intro t h;have h1:=ih h;refine⟨h1.1,fun u=>?_⟩;simp only[Pg]
  by_cases e:u=i
  .subst e;rw[E7];exact .Bo _
  .rw[FM _ _ e];exact h1.2 u
theorem Yc{l:AP}{c c':BU}{fr:Frame}{cs:List Frame}(h:forget l c=some c')(hm:JD X base W0 Z c fr cs W):JD X base W0 Z c' fr cs W:=by
 obtain⟨⟨fn,t,n,todo,ds,r,kd,rd⟩,l1,H⟩:=c;unfold forget at h;simp only at h;cases hb:Nu todo
 .simp only[hb,AAR]at h;cases h
 .simp only[hb,AAO]at h;cases h
  obtain⟨h1,h2,g,gs,h3,h4,h5⟩:=hm;refine⟨h1,h2,g,gs,?_,h4,h5⟩;simp only at h3;cases h3 with
  | plain _ _ _ tm _ todo' _ ds' _ _ _ rd' ht hi hd hr=>exact .plain fn _ n tm todo todo' ds ds' r kd rd rd' (XQ l ht) hi hd hr
  | drawn _ _ _ tm ops BP idx D G k k' _ ds' _ _ rd' hD hk hd hr=>cases hb
theorem Uz(hok:En X base W0)(hplan:HR X){cs0:List Frame}{c c':BU}(hg:GO X c c'):∀(Z:AW)(fr:Frame)(cs:List Frame)(W:World),JD X base W0 Z c fr cs W->
 ∃μ' fr1 cs1 W1,Steps X.P (lone fr (cs++cs0) W) (lone fr1 (cs1++cs0) W1)/\JD X base W0 μ' c' fr1 cs1 W1:=by
 induction hg with
 | run n h=>intro Z fr cs W hm;exact oW hok hplan n _ _ Z fr cs W h hm
 | shrink ids h=>intro Z fr cs W hm;exact⟨Z,fr,cs,W,.refl _ _,YI h hm⟩
 | forget l h=>intro Z fr cs W hm;exact⟨Z,fr,cs,W,.refl _ _,Yc h hm⟩
 | trans _ _ ih1 ih2=>
  intro Z fr cs W hm;obtain⟨μ1,fr1,cs1,W1,s1,m1⟩:=ih1 Z fr cs W hm;obtain⟨μ2,fr2,cs2,W2,s2,m2⟩:=ih2 μ1 fr1 cs1 W1 m1;exact⟨μ2,fr2,cs2,W2,s1.trans s2,m2⟩
theorem ZK(hok:En X base W0)(hplan:HR X)(hH:AH base W0 Z H W)(hlaid:BX X Z){f:FuncId}{n:Nat}{code:Code}(he:entry X.P f=some (n,code)){args:AL}{args':BE}(ha:Af Z args args'.toList)(hn:args.length<=n){c':BU}{v:Value}{H':AA}(hrun:GO X (Du f (CP 0 args .leaf) n code H) c')(hd:EV X f c'=some (v,H')):
 Calls X.P f args' W fun e W'=>∃v' μ',e= .returned v'/\AH base W0 μ' H' W'/\AF μ' v v':=by
 intro cs;obtain⟨μ',fr,cs1,W1,hs,hm⟩:=Uz (cs0:=cs) hok hplan hrun Z _ [] W (LA hH hlaid he ha hn);obtain⟨rfl,hf,v',h1,h2,h3⟩:=KA hm hd;have hs':Steps X.P (lone (Frame.enter X.P f args' .normal) cs W) (lone fr cs W1):=by simpa using hs
 exact⟨.returned v',W1,fr,⟨v',μ',rfl,h2,h3⟩,hs',hf,h1⟩
theorem dI(Y:Ctx)(hP:Y.P=X.P)(hL:Y.laid=X.laid)(hW:Dt X base W0)(hok:∀base W0,Dt Y base W0->En Y base W0)(hplan:HR Y){f:FuncId}{n N:Nat}{code:Code}(he:entry Y.P f=some (n,code)){args:AL}(hfl:args.all flat=true)(hn:args.length<=n)(hN:∀p∈Y.laid,p.1 < N){c':BU}{v:Value}{H1:AA}(hrun:GO Y (Du f (CP 0 args .leaf) n code (I4 Y.laid N)) c')(hd:EV Y f c'=some (v,H1))(hv:flat v=true)(hH:AH base W0 Z H W){args':BE}(ha:Af Z args args'.toList):Calls X.P f args' W fun e W'=>∃v' μ',e= .returned v'/\AH base W0 μ' H W'/\AF μ' v v'/\Ah Z H μ' H:=by
 have hW1:Dt Y (base.at W) W:=by
  have:=hW.carry hH;unfold Dt at this ⊢;rw[hL];exact this
 obtain⟨s1,s2⟩:=MG (X:=Y) hW1 (none_le _) (fun _ hi=>hi) hN;have hargs:args'.toList=args:=KT args _ hfl ha;have hc:=ZK (args':=args') (hok _ _ hW1) hplan s1 s2 he (by rw[hargs];exact IG args hfl) hn hrun hd;rw[hP]at hc;refine hc.mono fun e W' ⟨v',μ',h1,h2,h3⟩=>⟨v',Z,h1,hH.carry (Mq h2) h2.below h2.out h2.os,?_,Ah.refl _ _⟩
 rw[LN hv h3];exact D4 hv
end
structure M6 where
 f:FuncId
 args:AL
 v:Value
def Nx(k:M6):DL:=fun args H=>bif KM (JJ 8) args k.args then some (k.v,H)else none
def Il(P:Program)(laid:DD)(k:M6):Prop:=
 (∃n c,entry P k.f=some (n,c))/\∀base W0 Z H W (args':BE),Dt ⟨P,laid,fun _=>none,MN P⟩ base W0->AH base W0 Z H W->Af Z k.args args'.toList->
  Calls P k.f args' W fun e W'=>∃v' μ',e= .returned v'/\AH base W0 μ' H W'/\AF μ' k.v v'/\Ah Z H μ' H
def JS:List (Nat × Value)->Tr Value
 | []=> .leaf
 | (i,v)::r=>(JS r).put i (some v)
def sK:List (Nat × AJ)->Tr AJ
 | []=> .leaf
 | (i,v)::r=>(sK r).put i (some v)
def O5:Code->AP->Code
 | c,[]=>c
 | .seq a b,i::r=>bif Nat.beq i 0 then O5 a r else O5 b r
 | .cond _ a b,i::r=>bif Nat.beq i 0 then O5 a r else O5 b r
 | .block _ b,_::r=>O5 b r
 | .loop b,_::r=>O5 b r
 | .scope b,_::r=>O5 b r
 | .rangeFunc _ _ a b,i::r=>bif Nat.beq i 0 then O5 a r else O5 b r
 | c,_::_=>c
def BN(P:Program)(f:FuncId)(l:AP):Code:=match entry P f with
 | some (_,c)=>O5 c l
 | none=> .skip
def opsOf:Code->Array Oper
 | .region _ ops _=>ops
 | _=>#[]
def J1(c:Code)(k:Nat):Cs:= .Ks (opsOf c) ((opsOf c).toList.drop k)
def tE(P:Program)(c:Code)(k:Nat):Cs:= .E0 (opsOf c) (match MN P (opsOf c)with
 | some p=>p.drop k
 | none=>[])
def YO(k:IntKind)(w:Nat):Nat->Nat->AL
 | 0,_=>[]
 | n+1,m=> .int k (Int.ofNat (m % w))::YO k w n (m / w)
def bsS(l:AP):Ag:=⟨⟨l.map UInt8.ofNat⟩⟩
def pt(b o:Nat):Value:= .pointer (some ⟨b,o,none⟩)
def sl(b o l c:Nat):Value:= .slice (some ⟨b,o,none⟩) l c
def zC(n m:Nat):AL:=YO .u8 256 n m
def Yj(n m:Nat):AL:=YO .u32 4294967296 n m
theorem MO{laid:DD}{N:Nat}(h:laid.all (fun p=>Nat.blt p.1 N)=true):∀p∈laid,p.1 < N:=fun p hp=>VC (List.all_eq_true.1 h p hp)
theorem ij{P:Program}{f:FuncId}{n:Nat}{c:Code}(h:entry P f=some (n,c)):entry P f=some (n,BN P f []):=by
 have hc:O5 c []=c:=by cases c<;>rfl
 unfold BN;rw[h];show _=some (n,O5 c []);rw[hc]
def PK(P:Program)(laid:DD)(k:M6)(n N:Nat):Bool:=
 P.follows .mixedOrders&&k.args.all flat&&Nat.ble k.args.length n&&laid.all (fun p=>Nat.blt p.1 N)&&flat k.v&&(match entry P k.f with
  | some (m,_)=>Nat.beq m n
  | none=>false)
section
variable {X:Ctx}{base:Env}{W0:World}{Z:AW}{H:AA}{W:World}
def Rv(X:Ctx)(c c':BU):Prop:=∀(base:Env)(W0:World),En X base W0->HR X->∀(cs0:List Frame)(Z:AW)(fr:Frame)(cs:List Frame)(W:World),JD X base W0 Z c fr cs W->DW X base W0 cs0 c' (lone fr (cs++cs0) W)
theorem Rv.refl(X:Ctx)(c:BU):Rv X c c:=fun _ _ _ _ _ Z fr cs W hm=>⟨Z,fr,cs,W,.refl _ _,hm⟩
theorem Rv.trans{c c1 c2:BU}(h:Rv X c c1)(h':Rv X c1 c2):Rv X c c2:=by
 intro base W0 hok hplan cs0 Z fr cs W hm;obtain⟨μ1,fr1,cs1,W1,s1,m1⟩:=h base W0 hok hplan cs0 Z fr cs W hm;obtain⟨μ2,fr2,cs2,W2,s2,m2⟩:=h' base W0 hok hplan cs0 μ1 fr1 cs1 W1 m1;exact⟨μ2,fr2,cs2,W2,s1.trans s2,m2⟩
theorem Rv.step{c c':BU}(h:Eb X c=some c'):Rv X c c':=fun _ _ hok hplan _ _ _ _ _ hm=>XK hok hplan hm h
theorem Rv.AAJ{c c':BU}(h:GO X c c'):Rv X c c':=fun _ _ hok hplan _ Z fr cs W hm=>Uz hok hplan h Z fr cs W hm
def Reach(X:Ctx)(c:BU)(Φ:Cy):Prop:=∀(base:Env)(W0:World),En X base W0->HR X->∀(cs0:List Frame)(Z:AW)(fr:Frame)(cs:List Frame)(W:World),JD X base W0 Z c fr cs W->∃c',Φ c'/\DW X base W0 cs0 c' (lone fr (cs++cs0) W)
theorem Reach.here{c:BU}{Φ:Cy}(h:Φ c):Reach X c Φ:=fun _ _ hok hplan cs0 Z fr cs W hm=>⟨c,h,Rv.refl X c _ _ hok hplan cs0 Z fr cs W hm⟩
theorem Rv.reach{c c':BU}{Φ:Cy}(h:Rv X c c')(hΦ:Φ c'):Reach X c Φ:=fun _ _ hok hplan cs0 Z fr cs W hm=>⟨c',hΦ,h _ _ hok hplan cs0 Z fr cs W hm⟩
theorem Reach.bind{c:BU}{Φ Ψ:Cy}(h:Reach X c Φ)(h':∀c',Φ c'->Reach X c' Ψ):Reach X c Ψ:=by
 intro base W0 hok hplan cs0 Z fr cs W hm;obtain⟨c1,p1,μ1,fr1,cs1,W1,s1,m1⟩:=h base W0 hok hplan cs0 Z fr cs W hm;obtain⟨c2,p2,μ2,fr2,cs2,W2,s2,m2⟩:=h' c1 p1 base W0 hok hplan cs0 μ1 fr1 cs1 W1 m1;exact⟨c2,p2,μ2,fr2,cs2,W2,s1.trans s2,m2⟩
theorem Reach.mono{c:BU}{Φ Ψ:Cy}(h:Reach X c Φ)(hi:∀c',Φ c'->Ψ c'):Reach X c Ψ:=h.bind fun c' hc=> .here (hi c' hc)
theorem Rv.then{c c':BU}{Φ:Cy}(h:Rv X c c')(h':Reach X c' Φ):Reach X c Φ:=Reach.bind (Φ:=fun d=>d=c') (h.reach rfl) fun _ e=>e ▸ h'
theorem Rv.R6{fn:FuncId}{t:Tr Value}{n:Nat}{ops:Array Oper}{j:Nat}{o:Oper}{rest:List PE}{k:List Cs}{ds:List Deferred}{kd:CallKind}{rd:Option Nat}{cs:List Ae}{H:AA}(hf:DK ops o t=some true->∃d H1,o.dst=some d/\L8 X.P (Bs X t) o H=some (look t d,H1)):
 Rv X ⟨⟨fn,t,n,.E0 ops (.R6 j o::rest)::k,ds,false,kd,rd⟩,cs,H⟩ ⟨⟨fn,t,n,.E0 ops rest::k,ds,false,kd,rd⟩,cs,H⟩:=by
 intro base W0 hok hplan cs0 Z fr cs' W hm;obtain⟨hH,hlaid,g,gs,hfr,hcs,hnd⟩:=hm;simp only at hH hfr hcs;cases hfr with
 | plain fn t n tm todo todo' ds ds' r kd rd rd' ht hi hd hrd=>cases hi;rename_i h1 _;cases h1
 | drawn fn t n tm ops BP idx D G k k' ds ds' kd rd rd' hD hk hd hr=>
  have hoj:ops[j]? = some o:=hD.wf (.R6 j o) (by simp);have hokp:=hD.Uu;unfold Ev at hokp;simp only[AAQ]at hokp;have hwf:Iy ops rest:=fun e he=>hD.wf e (by simp[he])
  refine⟨Z,_,cs',W,.refl _ _,hH,hlaid,G.map Prod.snd,gs,.drawn fn t n tm ops rest idx D G k k' ds ds' kd rd rd' ⟨hD.stat,hwf,hokp.2,hD.J7,hD.Wv,hD.ev,hD.sz,hD.tmp,fun i oi hi hiD hii=>?_,hD.ep,hD.gO,hD.eY⟩ hk hd hr,hcs,hnd⟩;refine(hD.mB i oi hi hiD hii).congr (fun _ _=>rfl) (fun _ _=>rfl) fun d hdd hw hc0 hf2=>?_
  rcases hf2 with hf2 | hf2
  .simp only[lead,AAw]at hf2;rcases hf2 with rfl | hf2
   .rw[hoj]at hi;cases hi
    obtain⟨d2,H1,e1,e2⟩:=hf hw;rw[hdd]at e1;cases e1
    exact .inr ⟨H1,e2⟩
   .exact .inl hf2
  .exact .inr hf2
end
def qS{α:Type}(x:Option α)(p:Hl):Tr α->(Tr α->Prop)->Prop:=
 Hl.rec (motive:=fun _=>Tr α->(Tr α->Prop)->Prop)
  (fun t k=>Tr.casesOn (motive:=fun _=>Prop) t (k (.node .leaf x .leaf)) (fun l _ r=>k (.node l x r)))
  (fun _ ih t k=>Tr.casesOn (motive:=fun _=>Prop) t (ih .leaf fun l=>k (.node l none .leaf)) (fun l v r=>ih l fun l=>k (.node l v r)))
  (fun _ ih t k=>Tr.casesOn (motive:=fun _=>Prop) t (ih .leaf fun r=>k (.node .leaf none r)) (fun l v r=>ih r fun r=>k (.node l v r)))
  p
theorem ib{α:Type}(x:Option α)(p:Hl):∀(t:Tr α)(k:Tr α->Prop),qS x p t k=k (t.Gl x p):=by
 induction p with
 | e=>intro t k;cases t<;>rfl
 | z p ih=>intro t k;cases t<;>exact ih _ _
 | o p ih=>intro t k;cases t<;>exact ih _ _
def pD{α:Type}(t:Tr α)(n:Nat)(x:Option α)(k:Tr α->Prop):Prop:=qS x (Hl.of n) t k
theorem T6{α:Type}(t:Tr α)(n:Nat)(x:Option α)(k:Tr α->Prop):pD t n x k=k (t.put n x):=ib _ _ _ _
def Zs:Nat->AL->Tr Value->(Tr Value->Prop)->Prop
 | _,[],t,k=>k t
 | i,v::r,t,k=>pD t i (some v) fun t=>Zs (i+1) r t k
theorem WA:∀(l:AL)(i:Nat)(t:Tr Value)(k:Tr Value->Prop),Zs i l t k=k (CP i l t)
 | [],_,_,_=>rfl
 | v::r,i,t,k=>by simp only[Zs,CP,T6,WA r]
def LD(f:Ae)(v:Value):Option Ae:=
 match f with
 | ⟨fn,t,n,todo,ds,r,kd,rd⟩=>
  match todo with
  | .Ks ops (o::rest)::k=>
   match o.dst with
   | some d=>bif Nat.blt d n then some ⟨fn,t.put d (some v),n,.Ks ops rest::k,ds,r,kd,rd⟩else none
   | none=>some ⟨fn,t,n,.Ks ops rest::k,ds,r,kd,rd⟩
  | .E0 ops (.op _ o::rest)::k=>
   match o.dst with
   | some d=>bif Nat.blt d n then some ⟨fn,t.put d (some v),n,.E0 ops rest::k,ds,r,kd,rd⟩else none
   | none=>some ⟨fn,t,n,.E0 ops rest::k,ds,r,kd,rd⟩
  | .inRangeFunc l::k=>some ⟨fn,t,n,.endRangeFunc l::k,ds,r,kd,rd⟩
  | .beginRound::k=>some ⟨fn,t,n,k,ds,r,kd,rd⟩
  | _=>none
theorem Y8(f:Ae)(v:Value):CL f v=LD f v:=by
 unfold CL;rw[LG];rfl
def gY(f:Ae)(v:Value)(cs:List Ae)(H:AA)(K:Cy):Prop:=
 match f with
 | ⟨fn,t,n,todo,ds,r,kd,rd⟩=>
  match todo with
  | .Ks ops (o::rest)::k=>
   match o.dst with
   | some d=>bif Nat.blt d n then pD t d (some v) fun t=>K ⟨⟨fn,t,n,.Ks ops rest::k,ds,r,kd,rd⟩,cs,H⟩else False
   | none=>K ⟨⟨fn,t,n,.Ks ops rest::k,ds,r,kd,rd⟩,cs,H⟩
  | .E0 ops (.op _ o::rest)::k=>
   match o.dst with
   | some d=>bif Nat.blt d n then pD t d (some v) fun t=>K ⟨⟨fn,t,n,.E0 ops rest::k,ds,r,kd,rd⟩,cs,H⟩else False
   | none=>K ⟨⟨fn,t,n,.E0 ops rest::k,ds,r,kd,rd⟩,cs,H⟩
  | _=>match LD ⟨fn,t,n,todo,ds,r,kd,rd⟩ v with
   | some f'=>K ⟨f',cs,H⟩
   | none=>False
def LW(f:Ae)(v:Value)(cs:List Ae)(H:AA)(K:Cy):Prop:=
 match v with
 | .bool b=>bif b then gY f (.bool true) cs H K else gY f (.bool false) cs H K
 | v=>gY f v cs H K
def VT.Xm:VT->(H5)->Prop
 | .fail,_=>False
 | .ret v H,K=>K v H
 | .test c a b,K=>bif c then a.Xm K else b.Xm K
theorem VT.IN{K:H5}:∀{t:VT},t.Xm K->∃v H',t.run=some (v,H')/\K v H'
 | .fail,h=>by cases h
 | .ret v H,h=>⟨v,H,rfl,h⟩
 | .test c a b,h=>by
  cases c
  .exact VT.IN (t:=b) h
  .exact VT.IN (t:=a) h
def s9(P:Program)(ρ:Operand->Value)(o:Oper)(H:AA)(K:H5):Prop:=
 match Us P ρ o H with
 | some t=>t.Xm K
 | none=>match O2 P ρ o H with
  | some (v,H')=>K v H'
  | none=>False
theorem jH{P:Program}{ρ:Operand->Value}{o:Oper}{H:AA}{K:H5}(h:s9 P ρ o H K):∃v H',L8 P ρ o H=some (v,H')/\K v H':=by
 unfold s9 at h;unfold L8;cases hv:Us P ρ o H with
 | some t=>simp only[hv]at h;exact VT.IN h
 | none=>
  simp only[hv]at h;split at h
  .rename_i v H' e;exact⟨v,H',e,h⟩
  .cases h
def PW(X:Ctx)(f:FuncId)(args:AL)(kind:CallKind)(fr:Ae)(cs:List Ae)(H:AA)(K:Cy):Prop:=
 match B3 X f args kind H with
 | some (v,H')=>LW fr v cs H' K
 | none=>match entry X.P f with
  | some (n,c)=>bif Nat.ble args.length n then Zs 0 args .leaf fun t=>K ⟨⟨f,t,n,[.code c],[],false,kind,none⟩,fr::cs,H⟩else False
  | none=>match ID X f args kind fr cs H with
   | some c'=>K c'
   | none=>False
abbrev GN:=AL->AA->(H5)->Prop
abbrev Pf:=FuncId->Option GN
def Hm(X:Ctx)(pf:Pf):Prop:=∀f F,pf f=some F->∀args H K,F args H K->∃v H',B3 X f args .normal H=some (v,H')/\K v H'
def ZM(X:Ctx)(pf:Pf)(f:FuncId)(args:AL)(kind:CallKind)(fr:Ae)(cs:List Ae)(H:AA)(K:Cy):Prop:=
 match pf f with
 | some F=>match kind with
  | .normal=>F args H fun v H'=>LW fr v cs H' K
  | kind=>PW X f args kind fr cs H K
 | none=>PW X f args kind fr cs H K
def WM(X:Ctx)(pf:Pf)(f:Value)(args:AL)(fr:Ae)(cs:List Ae)(H:AA)(K:Cy):Prop:=
 match f with
 | .func (.func g) first captured=>ZM X pf g (first.toList++args++captured.toList) .normal fr cs H K
 | _=>match NJ X f args fr cs H with
  | some c'=>K c'
  | none=>False
def RX(X:Ctx)(pf:Pf)(o:Oper)(fr:Ae)(cs:List Ae)(H:AA)(K:Cy):Prop:=
 match o.op with
 | .call c=>match c.callee with
  | .builtin b=>bif isRec b then(match sS fr cs H with
   | some c'=>K c'
   | none=>False)else s9 X.P (Bs X fr.tmps) o H fun v H'=>LW fr v cs H' K
  | .value f=>WM X pf (Bs X fr.tmps f) (c.args.toList.map (Bs X fr.tmps)) fr cs H K
  | _=>False
 | .defer _=>match Lr X o fr cs H with
  | some c'=>K c'
  | none=>False
 | _=>s9 X.P (Bs X fr.tmps) o H fun v H'=>LW fr v cs H' K
def La(ops:Array Oper)(o:Oper)(t:Tr Value)(Kt Kf:Prop):Prop:=
 match o.guard with
 | none=>Kt
 | some (j,want)=>match HJ ops j with
  | some d=>match look t d with
   | .bool b=>bif want then(bif b then Kt else Kf)else(bif b then Kf else Kt)
   | .tuple _=>Kf
   | _=>False
  | none=>Kf
def tC(kind:CallKind)(v:Value)(cs:List Ae)(H:AA)(K:Cy):Prop:=
 match cs with
 | []=>False
 | c::rest=>match kind with
  | .normal=>LW c v rest H K
  | .deferred=>bif c.ret then K ⟨c,rest,H⟩else False
  | _=>False
def aA(l:List PE):(List PE->Prop)->Prop:=
 List.rec (motive:=fun _=>(List PE->Prop)->Prop) (fun k=>k []) (fun e _ ih k=>match e with
  | .op i ⟨d,op,ty,pos,af,g⟩=>Nat.rec (motive:=fun _=>Prop) (ih fun r=>k (.op 0 ⟨d,op,ty,pos,af,g⟩::r)) (fun j _=>ih fun r=>k (.op (j+1) ⟨d,op,ty,pos,af,g⟩::r)) i
  | .R6 i ⟨d,op,ty,pos,af,g⟩=>Nat.rec (motive:=fun _=>Prop) (ih fun r=>k (.R6 0 ⟨d,op,ty,pos,af,g⟩::r)) (fun j _=>ih fun r=>k (.R6 (j+1) ⟨d,op,ty,pos,af,g⟩::r)) i) l
theorem IB:∀(l:List PE)(k:List PE->Prop),aA l k=k l
 | [],_=>rfl
 | .op 0 o::r,k=>IB r fun r=>k (.op 0 o::r)
 | .op (j+1) o::r,k=>IB r fun r=>k (.op (j+1) o::r)
 | .R6 0 o::r,k=>IB r fun r=>k (.R6 0 o::r)
 | .R6 (j+1) o::r,k=>IB r fun r=>k (.R6 (j+1) o::r)
def HC(X:Ctx)(pf:Pf)(c:BU)(K:Cy):Prop:=
 match c with
 | ⟨⟨fn,t,n,todo,ds,r,kd,rd⟩,cs,H⟩=>
  bif r then
   match ds with
   | []=>match KU X fn t H with
    | some v=>tC kd v cs H K
    | none=>False
   | _::_=>match NL X ⟨fn,t,n,todo,ds,r,kd,rd⟩ cs H with
    | some c'=>K c'
    | none=>False
  else
  match todo with
  | .Ks ops (o::_)::_=>La ops o t (RX X pf o ⟨fn,t,n,todo,ds,r,kd,rd⟩ cs H K) (LW ⟨fn,t,n,todo,ds,r,kd,rd⟩ Go.undef cs H K)
  | .E0 ops (.op _ o::_)::_=>La ops o t (RX X pf o ⟨fn,t,n,todo,ds,r,kd,rd⟩ cs H K) (LW ⟨fn,t,n,todo,ds,r,kd,rd⟩ Go.undef cs H K)
  | .E0 ops (.R6 _ o::rest)::k=>La ops o t
   (match o.dst with
    | some d=>s9 X.P (Bs X t) o H fun v _=>v=look t d/\K ⟨⟨fn,t,n,.E0 ops rest::k,ds,r,kd,rd⟩,cs,H⟩
    | none=>False)
   (K ⟨⟨fn,t,n,.E0 ops rest::k,ds,r,kd,rd⟩,cs,H⟩)
  | .code (.cond c a b)::k=>match Bs X t c with
   | .bool x=>bif x then K ⟨⟨fn,t,n,.code a::k,ds,r,kd,rd⟩,cs,H⟩else K ⟨⟨fn,t,n,.code b::k,ds,r,kd,rd⟩,cs,H⟩
   | _=>False
  | .code (.region _ ops true)::k=>match X.BP ops with
   | some p=>aA p fun p=>K ⟨⟨fn,t,n,.E0 ops p::k,ds,r,kd,rd⟩,cs,H⟩
   | none=>False
  | .code (.rangeFunc f params assign body)::k=>
   match rd with
   | some l=>match H.get l with
    | some (.loop q)=>
     WM X pf (Bs X t f) [.func (.yield H.next) ⟨[]⟩ ⟨[]⟩] ⟨fn,t,n,.inRangeFunc H.next::k,ds,r,kd,rd⟩ cs
      (H.alloc (.loop ⟨.ready,none,fn,t,n,params,assign,body,q.defers⟩)) K
    | _=>False
   | none=>
    WM X pf (Bs X t f) [.func (.yield (H.next+1)) ⟨[]⟩ ⟨[]⟩] ⟨fn,t,n,.inRangeFunc (H.next+1)::k,{ target:= .collected H.next,args:=⟨[]⟩ }::ds,r,kd,rd⟩ cs
     ((H.alloc (.deferred (some []))).alloc (.loop ⟨.ready,none,fn,t,n,params,assign,body,H.next⟩)) K
  | _=>match Eb X ⟨⟨fn,t,n,todo,ds,r,kd,rd⟩,cs,H⟩with
   | some c'=>K c'
   | none=>False
section
variable {X:Ctx}
theorem Uq{f:Ae}{v:Value}{cs:List Ae}{H:AA}{K:Cy}(h:gY f v cs H K):∃f',CL f v=some f'/\K ⟨f',cs,H⟩:=by
 rw[Y8];obtain⟨fn,t,n,todo,ds,r,kd,rd⟩:=f;unfold gY at h;simp only at h;split at h
 .rename_i ops o rest k;split at h
  .rename_i d e;cases hb:Nat.blt d n
   .simp[hb]at h
   .simp only[hb,AAO,T6]at h;exact⟨_,by simp only[LD,e,hb,AAO],h⟩
  .rename_i e;exact⟨_,by simp only[LD,e],h⟩
 .rename_i ops i o rest k;split at h
  .rename_i d e;cases hb:Nat.blt d n
   .simp[hb]at h
   .simp only[hb,AAO,T6]at h;exact⟨_,by simp only[LD,e,hb,AAO],h⟩
  .rename_i e;exact⟨_,by simp only[LD,e],h⟩
 .split at h
  .rename_i f' e;exact⟨f',e,h⟩
  .cases h
theorem LO{f:Ae}{v:Value}{cs:List Ae}{H:AA}{K:Cy}(h:LW f v cs H K):∃f',CL f v=some f'/\K ⟨f',cs,H⟩:=by
 unfold LW at h;split at h
 .rename_i b;cases b
  .exact Uq h
  .exact Uq h
 .exact Uq h
theorem QE{f:FuncId}{args:AL}{kind:CallKind}{fr:Ae}{cs:List Ae}{H:AA}{K:Cy}(h:PW X f args kind fr cs H K):∃c',ID X f args kind fr cs H=some c'/\K c':=by
 unfold PW at h;cases hi:B3 X f args kind H with
 | some p=>
  obtain⟨v,H'⟩:=p;simp only[hi]at h;obtain⟨f',e1,e2⟩:=LO h;exact⟨_,by unfold ID;simp only[hi,e1],e2⟩
 | none=>
  simp only[hi]at h;cases he:entry X.P f with
  | some p=>
   obtain⟨n,c⟩:=p;simp only[he]at h;cases hb:Nat.ble args.length n
   .simp[hb]at h
   .simp only[hb,AAO,WA]at h;exact⟨_,by unfold ID;simp only[hi,he,hb,AAO],h⟩
  | none=>
   simp only[he]at h;split at h
   .rename_i c' e;exact⟨c',e,h⟩
   .cases h
theorem dA{pf:Pf}(hpf:Hm X pf){f:FuncId}{args:AL}{kind:CallKind}{fr:Ae}{cs:List Ae}{H:AA}{K:Cy}(h:ZM X pf f args kind fr cs H K):∃c',ID X f args kind fr cs H=some c'/\K c':=by
 unfold ZM at h;split at h
 .rename_i F hF;split at h
  .obtain⟨v,H',e1,e2⟩:=hpf f F hF _ _ _ h;obtain⟨f',e3,e4⟩:=LO e2;exact⟨_,by unfold ID;simp only[e1,e3],e4⟩
  .exact QE h
 .exact QE h
theorem Ri{pf:Pf}(hpf:Hm X pf){f:Value}{args:AL}{fr:Ae}{cs:List Ae}{H:AA}{K:Cy}(h:WM X pf f args fr cs H K):∃c',NJ X f args fr cs H=some c'/\K c':=by
 unfold WM at h;split at h
 .obtain⟨c',e1,e2⟩:=dA hpf h;exact⟨c',by unfold NJ;exact e1,e2⟩
 .split at h
  .rename_i c' e;exact⟨c',e,h⟩
  .cases h
theorem Uy{pf:Pf}(hpf:Hm X pf){o:Oper}{fr:Ae}{cs:List Ae}{H:AA}{K:Cy}(h:RX X pf o fr cs H K):∃c',Lr X o fr cs H=some c'/\K c':=by
 have key:s9 X.P (Bs X fr.tmps) o H (fun v H'=>LW fr v cs H' K)->∃v H' f',L8 X.P (Bs X fr.tmps) o H=some (v,H')/\CL fr v=some f'/\K ⟨f',cs,H'⟩:=by
  intro h;obtain⟨v,H',e1,e2⟩:=jH h;obtain⟨f',e3,e4⟩:=LO e2;exact⟨v,H',f',e1,e3,e4⟩
 unfold RX at h;unfold Lr;cases ho:o.op
 case call c=>
  simp only[ho]at h ⊢;cases hc:c.callee with
  | builtin b=>
   simp only[hc]at h ⊢;cases hb:isRec b
   .simp only[hb,AAR]at h ⊢;obtain⟨v,H',f',e1,e2,e3⟩:=key h;exact⟨_,by simp only[e1,e2],e3⟩
   .simp only[hb,AAO]at h ⊢;split at h
    .rename_i c' e;exact⟨c',e,h⟩
    .cases h
  | value f=>simp only[hc]at h ⊢;exact Ri hpf h
  | invoke r m=>simp only[hc]at h
 case defer c=>
  simp only[ho]at h;split at h
  .rename_i c' e;refine⟨c',?_,h⟩;unfold Lr at e;simp only[ho]at e ⊢;exact e
  .cases h
 all_goals
  simp only[ho]at h ⊢;obtain⟨v,H',f',e1,e2,e3⟩:=key h;exact⟨_,by simp only[e1,e2],e3⟩
theorem RH{ops:Array Oper}{o:Oper}{t:Tr Value}{Kt Kf:Prop}(h:La ops o t Kt Kf):(DK ops o t=some true/\Kt)\/(DK ops o t=some false/\Kf):=by
 unfold La at h;unfold DK;split at h
 .rename_i e;exact .inl ⟨by simp only[e],h⟩
 .rename_i j want e;split at h
  .rename_i d e1;split at h
   .rename_i b e2;cases want<;>cases b<;>simp only[AAO,AAR]at h<;>simp[e,e1,e2,h]
   .rename_i e2;exact .inr ⟨by simp only[e,e1,e2],h⟩
   .cases h
  .rename_i e1;exact .inr ⟨by simp only[e,e1],h⟩
theorem qM{kind:CallKind}{v:Value}{cs:List Ae}{H:AA}{K:Cy}(h:tC kind v cs H K):∃c',Ir kind v cs H=some c'/\K c':=by
 unfold tC at h;unfold Ir;split at h
 .cases h
 .cases kind<;>simp only at h ⊢
  .obtain⟨f',e1,e2⟩:=LO h;exact⟨_,by simp only[e1],e2⟩
  .rename_i c rest;cases hr:c.ret
   .simp[hr]at h
   .simp only[hr,AAO]at h ⊢;exact⟨_,rfl,h⟩
  all_goals cases h
theorem bx{pf:Pf}(hpf:Hm X pf){c:BU}{K:Cy}(h:HC X pf c K):∃c',Rv X c c'/\K c':=by
 obtain⟨⟨fn,t,n,todo,ds,r,kd,rd⟩,cs,H⟩:=c;have fall:(match Eb X ⟨⟨fn,t,n,todo,ds,r,kd,rd⟩,cs,H⟩with | some c'=>K c' | none=>False)->∃c',Rv X ⟨⟨fn,t,n,todo,ds,r,kd,rd⟩,cs,H⟩ c'/\K c':=by
  intro h;split at h
  .rename_i c' e;exact⟨c',.step e,h⟩
  .cases h
 unfold HC at h;simp only at h;cases r with
 | true=>
  simp only[AAO]at h;split at h
  .split at h
   .rename_i v e;obtain⟨c',e1,e2⟩:=qM h;refine⟨c',.step ?_,e2⟩;unfold Eb NL;simp only[AAO,e,e1]
   .cases h
  .split at h
   .rename_i c' e;refine⟨c',.step ?_,h⟩;unfold Eb;simp only[AAO];exact e
   .cases h
 | false=>
  simp only[AAR]at h;split at h
  .rename_i ops o l k;rcases RH h with⟨hw,h⟩ | ⟨hw,h⟩
   .obtain⟨c',e1,e2⟩:=Uy hpf h;refine⟨c',.step ?_,e2⟩;unfold Eb;simp only[AAR,hw];exact e1
   .obtain⟨f',e1,e2⟩:=LO h;refine⟨_,.step ?_,e2⟩;unfold Eb;simp only[AAR,hw,e1]
  .rename_i ops i o l k;rcases RH h with⟨hw,h⟩ | ⟨hw,h⟩
   .obtain⟨c',e1,e2⟩:=Uy hpf h;refine⟨c',.step ?_,e2⟩;unfold Eb;simp only[AAR,hw];exact e1
   .obtain⟨f',e1,e2⟩:=LO h;refine⟨_,.step ?_,e2⟩;unfold Eb;simp only[AAR,hw,e1]
  .rename_i ops j o rest k;rcases RH h with⟨hw,h⟩ | ⟨hw,h⟩
   .split at h
    .rename_i d hd;obtain⟨v,H',e1,e2,e3⟩:=jH h;exact⟨_,.R6 fun _=>⟨d,H',hd,by rw[e1,e2]⟩,e3⟩
    .cases h
   .exact⟨_,.R6 fun hw2=>(by rw[hw]at hw2;cases hw2),h⟩
  .rename_i cnd a b k;split at h
   .rename_i x e;cases x
    .refine⟨_,.step ?_,h⟩;unfold Eb;simp only[AAR,e]
    .refine⟨_,.step ?_,h⟩;unfold Eb;simp only[AAR,AAO,e]
   .cases h
  .rename_i ops k;split at h
   .rename_i p e;rw[IB]at h;refine⟨_,.step ?_,h⟩;unfold Eb;simp only[AAR,e]
   .cases h
  .rename_i f params assign body k;split at h
   .rename_i l;split at h
    .rename_i q e;obtain⟨c',e1,e2⟩:=Ri hpf h;refine⟨c',.step ?_,e2⟩;unfold Eb;simp only[AAR,e];exact e1
    .cases h
   .obtain⟨c',e1,e2⟩:=Ri hpf h;refine⟨c',.step ?_,e2⟩;unfold Eb;simp only[AAR];exact e1
  .exact fall h
def Am:Nat->Value->AP
 | 0,_=>[]
 | n+1,v=>match v with
  | .pointer (some a)=>[a.block]
  | .slice (some a) _ _=>[a.block]
  | .map (some b)=>[b]
  | .agg cs=>cs.toList.flatMap (Am n)
  | .tuple cs=>cs.toList.flatMap (Am n)
  | .iface _ v=>Am n v
  | .func _ a b=>a.toList.flatMap (Am n)++b.toList.flatMap (Am n)
  | _=>[]
def qU(X:Ctx)(pf:Pf)(f:FuncId)(ids:AP)(Q:Bz)(n:Nat):Cy:=
 Nat.rec (motive:=fun _=>Cy) (fun _=>False) (fun _ ih c=>match EV X f c with
  | some (v,H)=>Q v ((ids++Am 4 v).map H.get)
  | none=>HC X pf c ih) n
def Dn:Pf:=fun _=>none
theorem By(X:Ctx):Hm X Dn:=fun _ _ h=>by cases h
theorem KQ{pf:Pf}(hpf:Hm X pf){c:BU}{K:Cy}(h:HC X pf c K):Reach X c K:=let ⟨_,h1,h2⟩:=bx hpf h;h1.reach h2
def Xu(X:Ctx)(f:FuncId)(Q:H5)(c:BU):Prop:=Reach X c fun c'=>∃v H,EV X f c'=some (v,H)/\Q v H
theorem YL{pf:Pf}(hpf:Hm X pf){f:FuncId}{ids:AP}{Q:Bz}:∀(n:Nat)(c:BU),qU X pf f ids Q n c->Xu X f (fun v H=>Q v ((ids++Am 4 v).map H.get)) c:=by
 intro n;induction n with
 | zero=>intro c h;cases h
 | succ n ih=>
  intro c h;have h:(match EV X f c with
   | some (v,H)=>Q v ((ids++Am 4 v).map H.get)
   | none=>HC X pf c (qU X pf f ids Q n)):=h
  split at h
  .rename_i v H e;exact .here ⟨v,H,e,h⟩
  .exact(KQ hpf h).bind fun c' hc=>ih c' hc
end
abbrev Ren:=Nat->Option Nat
def DZ(f:Value->DJ):AL->Option (AL)
 | []=>some []
 | v::l=>match f v,DZ f l with
  | some w,some m=>some (w::m)
  | _,_=>none
def Jq(ρ:Ren):Addr->Option Addr
 | ⟨b,o,s⟩=>match ρ b with
  | some i=>some ⟨i,o,s⟩
  | none=>none
def CA(ρ:Ren):Nat->Value->DJ
 | 0,_=>none
 | n+1,v=>match v with
  | .bool b=>some (.bool b)
  | .int k m=>some (.int k m)
  | .float k m=>some (.float k m)
  | .string s=>some (.string s)
  | .pointer none=>some (.pointer none)
  | .pointer (some a)=>(Jq ρ a).map fun a=> .pointer (some a)
  | .slice none l c=>some (.slice none l c)
  | .slice (some a) l c=>(Jq ρ a).map fun a=> .slice (some a) l c
  | .map none=>some (.map none)
  | .map (some b)=>(ρ b).map fun b=> .map (some b)
  | .nilFunc=>some .nilFunc
  | .nilIface=>some .nilIface
  | .iface t v=>(CA ρ n v).map fun v=> .iface t v
  | .agg cs=>(DZ (CA ρ n) cs.toList).map fun l=> .agg ⟨l⟩
  | .tuple cs=>(DZ (CA ρ n) cs.toList).map fun l=> .tuple ⟨l⟩
  | .func (.func f) xs ys=>match DZ (CA ρ n) xs.toList,DZ (CA ρ n) ys.toList with
   | some a,some b=>some (.func (.func f) ⟨a⟩ ⟨b⟩)
   | _,_=>none
  | .chan (some 0)=>some (.chan (some 0))
  | _=>none
abbrev EI(ρ:Ren)(v:Value):DJ:=CA ρ 6 v
section
variable {ρ:Ren}{Z ν:AW}
theorem HD{f:Value->DJ}(hf:∀v v1 v',f v=some v1->AF Z v v'->AF ν v1 v'):∀(l l1 l':AL),DZ f l=some l1->Af Z l l'->Af ν l1 l'
 | [],_,_,h,hl=>by cases h;cases hl;exact .nil
 | v::l,l1,_,h,hl=>by
  cases hl with
  | cons h1 h2=>
   simp only[DZ]at h;split at h
   .rename_i w m e1 e2;cases h
    exact .cons (hf _ _ _ e1 h1) (HD hf l m _ e2 h2)
   .cases h
theorem GR{f:Value->DJ}(hf:∀v v1 v',f v=some v1->AF ν v1 v'->AF Z v v'):∀(l l1 l':AL),DZ f l=some l1->Af ν l1 l'->Af Z l l'
 | [],_,_,h,hl=>by cases h;cases hl;exact .nil
 | v::l,l1,l',h,hl=>by
  simp only[DZ]at h;split at h
  .rename_i w m e1 e2;cases h
   cases hl with
   | cons h1 h2=>exact .cons (hf _ _ _ e1 h1) (GR hf l m _ e2 h2)
  .cases h
theorem FF{a a1:Addr}(h:Jq ρ a=some a1):∃b o s i,a=⟨b,o,s⟩/\ρ b=some i/\a1=⟨i,o,s⟩:=by
 obtain⟨b,o,s⟩:=a;unfold Jq at h;simp only at h;split at h
 .rename_i i e;cases h;exact⟨b,o,s,i,rfl,e,rfl⟩
 .cases h
theorem PQ(hρ:∀b i T,ρ b=some i->Z b=some T->ν i=some T):∀(n:Nat)(v v1 v':Value),CA ρ n v=some v1->AF Z v v'->AF ν v1 v':=by
 intro n;induction n with
 | zero=>intro v v1 v' h;cases h
 | succ n ih=>
  intro v v1 v' h hr;cases hr with
  | Bo=>simp only[CA,Bo,AAN]at h;subst h;exact .Bo _
  | bool b=>cases h;exact .bool b
  | int k m=>cases h;exact .int k m
  | float k m=>cases h;exact .float k m
  | string s=>cases h;exact .string s
  | IX=>cases h;exact .IX
  | Cc l c=>cases h;exact .Cc l c
  | IQ=>cases h;exact .IQ
  | nilFunc=>cases h;exact .nilFunc
  | nilIface=>cases h;exact .nilIface
  | ptr b o T hm=>
   simp only[CA,AAV]at h;obtain⟨a,ha,rfl⟩:=h;obtain⟨b1,o1,s1,i,e1,e2,rfl⟩:=FF ha;cases e1
   exact .ptr i o T (hρ _ _ _ e2 hm)
  | HV b o j T hm hlo=>
   simp only[CA,AAV]at h;obtain⟨a,ha,rfl⟩:=h;obtain⟨b1,o1,s1,i,e1,e2,rfl⟩:=FF ha;cases e1
   exact .HV i o j T (hρ _ _ _ e2 hm) hlo
  | Hn b o j T M hm hm2 hcu=>
   simp only[CA,AAV]at h;obtain⟨a,ha,rfl⟩:=h;obtain⟨b1,o1,s1,i,e1,e2,rfl⟩:=FF ha;cases e1
   exact .Hn i o j T M (hρ _ _ _ e2 hm) hm2 hcu
  | slice b o l c c' o' T hm hc ho=>
   simp only[CA,AAV]at h;obtain⟨a,ha,rfl⟩:=h;obtain⟨b1,o1,s1,i,e1,e2,rfl⟩:=FF ha;cases e1
   exact .slice i o l c c' o' T (hρ _ _ _ e2 hm) hc ho
  | Bd b j l c c' o' T hm hc ho hr=>
   simp only[CA,AAV]at h;obtain⟨a,ha,rfl⟩:=h;obtain⟨b1,o1,s1,i,e1,e2,rfl⟩:=FF ha;cases e1
   exact .Bd i j l c c' o' T (hρ _ _ _ e2 hm) hc ho hr
  | Dz b j c T z hm hc=>
   simp only[CA,AAV]at h;obtain⟨a,ha,rfl⟩:=h;obtain⟨b1,o1,s1,i,e1,e2,rfl⟩:=FF ha;cases e1
   exact .Dz i j c T z (hρ _ _ _ e2 hm) hc
  | C9 b j l c c' o' T M hm hm2 hc ho hr=>
   simp only[CA,AAV]at h;obtain⟨a,ha,rfl⟩:=h;obtain⟨b1,o1,s1,i,e1,e2,rfl⟩:=FF ha;cases e1
   exact .C9 i j l c c' o' T M (hρ _ _ _ e2 hm) hm2 hc ho hr
  | GI b j c T z hm hc=>
   simp only[CA,AAV]at h;obtain⟨a,ha,rfl⟩:=h;obtain⟨b1,o1,s1,i,e1,e2,rfl⟩:=FF ha;cases e1
   exact .GI i j c T z (hρ _ _ _ e2 hm) hc
  | map b T hm=>
   simp only[CA,AAV]at h;obtain⟨i,hi,rfl⟩:=h;exact .map i T (hρ _ _ _ hi hm)
  | iface t a a' ha=>
   simp only[CA,AAV]at h;obtain⟨w,hw,rfl⟩:=h;exact .iface t w a' (ih _ _ _ hw ha)
  | agg xs xs' hx ex=>
   obtain⟨ys,he,hl⟩:=AF.Cr.1 (.agg xs xs' hx ex);cases he
   simp only[CA,AAV]at h;obtain⟨l,hl1,rfl⟩:=h;exact AF.Cr.2 ⟨_,rfl,HD ih _ _ _ hl1 hl⟩
  | tuple xs xs' hx ex=>
   obtain⟨ys,he,hl⟩:=AF.CM.1 (.tuple xs xs' hx ex);cases he
   simp only[CA,AAV]at h;obtain⟨l,hl1,rfl⟩:=h;exact AF.CM.2 ⟨_,rfl,HD ih _ _ _ hl1 hl⟩
  | func fn fn' xs xs' ys ys' hf hx ex hy ey=>
   obtain⟨fn2,xs2,ys2,he,hf2,hx2,hy2⟩:=AF.Cd.1 (.func fn fn' xs xs' ys ys' hf hx ex hy ey);cases he
   cases hf2 with
   | func f=>
    simp only[CA]at h;split at h
    .rename_i a b e1 e2;cases h
     exact AF.Cd.2 ⟨_,_,_,rfl,.func f,HD ih _ _ _ e1 hx2,HD ih _ _ _ e2 hy2⟩
    .cases h
   | _=>simp[CA]at h
theorem PD(hρ:∀b i T,ρ b=some i->ν i=some T->Z b=some T):∀(n:Nat)(v v1 v':Value),CA ρ n v=some v1->AF ν v1 v'->AF Z v v':=by
 intro n;induction n with
 | zero=>intro v v1 v' h;cases h
 | succ n ih=>
  intro v v1 v' h hr;unfold CA at h;split at h
  .cases h;cases hr;exact .bool _
  .cases h;cases hr;exact .int _ _
  .cases h;cases hr;exact .float _ _
  .cases h;cases hr;exact .string _
  .cases h;cases hr;exact .IX
  .simp only[AAV]at h;obtain⟨a,ha,rfl⟩:=h;obtain⟨b1,o1,s1,i,rfl,e2,rfl⟩:=FF ha;cases hr with
   | ptr _ _ T hm=>exact .ptr b1 _ T (hρ _ _ _ e2 hm)
   | HV _ _ j T hm hlo=>exact .HV b1 _ j T (hρ _ _ _ e2 hm) hlo
   | Hn _ _ j T M hm hm2 hcu=>exact .Hn b1 _ j T M (hρ _ _ _ e2 hm) hm2 hcu
  .cases h;cases hr;exact .Cc _ _
  .simp only[AAV]at h;obtain⟨a,ha,rfl⟩:=h;obtain⟨b1,o1,s1,i,rfl,e2,rfl⟩:=FF ha;cases hr with
   | slice _ _ _ _ c' o' T hm hc ho=>exact .slice b1 _ _ _ c' o' T (hρ _ _ _ e2 hm) hc ho
   | Bd _ j _ _ c' o' T hm hc ho hr=>exact .Bd b1 j _ _ c' o' T (hρ _ _ _ e2 hm) hc ho hr
   | Dz _ j _ T z hm hc=>exact .Dz b1 j _ T z (hρ _ _ _ e2 hm) hc
   | C9 _ j _ _ c' o' T M hm hm2 hc ho hr=>exact .C9 b1 j _ _ c' o' T M (hρ _ _ _ e2 hm) hm2 hc ho hr
   | GI _ j _ T z hm hc=>exact .GI b1 j _ T z (hρ _ _ _ e2 hm) hc
  .cases h;cases hr;exact .IQ
  .simp only[AAV]at h;obtain⟨i,hi,rfl⟩:=h;cases hr with
   | map _ T hm=>exact .map _ T (hρ _ _ _ hi hm)
  .cases h;cases hr;exact .nilFunc
  .cases h;cases hr;exact .nilIface
  .simp only[AAV]at h;obtain⟨w,hw,rfl⟩:=h;cases hr with
   | iface _ _ a' ha=>exact .iface _ _ a' (ih _ _ _ hw ha)
  .simp only[AAV]at h;obtain⟨l,hl,rfl⟩:=h;obtain⟨ys,rfl,hl2⟩:=AF.Cr.1 hr;exact AF.Cr.2 ⟨_,rfl,GR ih _ _ _ hl hl2⟩
  .simp only[AAV]at h;obtain⟨l,hl,rfl⟩:=h;obtain⟨ys,rfl,hl2⟩:=AF.CM.1 hr;exact AF.CM.2 ⟨_,rfl,GR ih _ _ _ hl hl2⟩
  .split at h
   .rename_i a b e1 e2;cases h
    obtain⟨fn2,xs2,ys2,rfl,hf2,hx2,hy2⟩:=AF.Cd.1 hr;cases hf2
    exact AF.Cd.2 ⟨_,_,_,rfl,.func _,GR ih _ _ _ e1 hx2,GR ih _ _ _ e2 hy2⟩
   .cases h
  .exact .Bo _
  .cases h
def IM:SK->Bool
 | .tok=>false
 | _=>true
theorem D8(l:List (EK.C [.tok])):Ac [.tok] l=l:=by
 induction l with
 | nil=>rfl
 | cons x l ih=>rw[D3,ih];rfl
def IH(f:Value->DJ):List (EK.C [.str,.tok])->Option (List (EK.C [.str,.tok]))
 | []=>some []
 | x::r=>match f x.2,IH f r with
  | some w,some m=>some ((x.1,w)::m)
  | _,_=>none
theorem QJ{f:Value->DJ}(hf:∀s,f (.string s)=some (.string s)):∀(l m:List (EK.C [.str,.tok])),IH f l=some m->DZ f (Ac [.str,.tok] l)=some (Ac [.str,.tok] m)
 | [],m,h=>by cases h;rfl
 | x::r,m,h=>by
  simp only[IH]at h;split at h
  .rename_i w m2 e1 e2;cases h
   have ih:=QJ hf r m2 e2;show DZ f (Value.string x.1::x.2::Ac [.str,.tok] r)=some (Value.string x.1::w::Ac [.str,.tok] m2);simp only[DZ,hf,e1,ih]
  .cases h
theorem Km{f:Value->DJ}:∀(l m:List (EK.C [.str,.tok])),IH f l=some m->m.length=l.length
 | [],_,h=>by cases h;rfl
 | x::l,l1,h=>by
  simp only[IH]at h;split at h
  .rename_i w m e1 e2;cases h;simp[Km l m e2]
  .cases h
def BF(ρ:Ren):AJ->Option AJ
 | .cells cs e ro=>(DZ (EI ρ) cs).map fun l=> .cells l e ro
 | .vec [.tok] l ro=>(DZ (EI ρ) l).map fun l=> .vec [.tok] l ro
 | .vec [.str,.tok] l ro=>(IH (EI ρ) l).map fun l=> .vec [.str,.tok] l ro
 | .vec k l ro=>bif k.all IM then some (.vec k l ro)else none
 | .abs a ro=>bif a.HY then some (.abs a ro)else none
 | _=>none
theorem H8{ρ:Ren}:∀(k:EK)(_:k.all IM=true)(l:List (EK.C k))(ro:Bool),BF ρ (.vec k l ro)=some (.vec k l ro)
 | [],_,_,_=>rfl
 | [.tok],hk,_,_=>by cases hk
 | [.int _],_,_,_=>rfl
 | [.bool],_,_,_=>rfl
 | [.str],_,_,_=>rfl
 | [.str,.tok],hk,_,_=>by cases hk
 | s::t::r,hk,l,ro=>by
  cases s with
  | tok=>cases hk
  | str=>cases t with
   | tok=>cases hk
   | _=>show(bif List.all _ IM then some (AJ.vec _ l ro)else none)=_;rw[hk];rfl
  | _=>show(bif List.all _ IM then some (AJ.vec _ l ro)else none)=_;rw[hk];rfl
theorem Rc{ρ:Ren}{k:EK}{l:List (EK.C k)}{ro:Bool}{o1:AJ}(h:BF ρ (.vec k l ro)=some o1):
 (∃l' l1:List (EK.C [.tok]),(⟨k,l⟩:(k:EK) × List (EK.C k))=⟨[.tok],l'⟩/\DZ (EI ρ) l'=some l1/\o1= .vec [.tok] l1 ro)\/(k.all IM=true/\o1= .vec k l ro)\/
 (∃l' l1:List (EK.C [.str,.tok]),(⟨k,l⟩:(k:EK) × List (EK.C k))=⟨[.str,.tok],l'⟩/\IH (EI ρ) l'=some l1/\o1= .vec [.str,.tok] l1 ro):=by
 unfold BF at h;split at h
 .rename_i heq;cases heq
 .rename_i l2 ro2 he;cases he
  simp only[AAV]at h;obtain⟨l1,hl,rfl⟩:=h;exact .inl ⟨l2,l1,rfl,hl,rfl⟩
 .rename_i l2 ro2 he;cases he
  simp only[AAV]at h;obtain⟨l1,hl,rfl⟩:=h;exact .inr (.inr ⟨l2,l1,rfl,hl,rfl⟩)
 .rename_i k2 l2 ro2 hne hne2 he;injection he with e1 e2 e3
  subst e1;cases e2
  subst e3;cases hk:k.all IM
  .simp[hk]at h
  .simp only[hk,AAO,AAN]at h;exact .inr (.inl ⟨rfl,h.symm⟩)
 .rename_i heq;cases heq
 .cases h
theorem Vn{ρ:Ren}{l l1:List (EK.C [.tok])}{ro:Bool}(h:DZ (EI ρ) l=some l1):BF ρ (.vec [.tok] l ro)=some (.vec [.tok] l1 ro):=by
 show(DZ (EI ρ) l).map _=_;rw[h];rfl
theorem TG{ρ:Ren}{l l1:List (EK.C [.str,.tok])}{ro:Bool}(h:IH (EI ρ) l=some l1):BF ρ (.vec [.str,.tok] l ro)=some (.vec [.str,.tok] l1 ro):=by
 show(IH (EI ρ) l).map _=_;rw[h];rfl
theorem Ed{f:Value->DJ}:∀(l l1:AL),DZ f l=some l1->l1.length=l.length
 | [],_,h=>by cases h;rfl
 | v::l,l1,h=>by
  simp only[DZ]at h;split at h
  .rename_i w m e1 e2;cases h;simp[Ed l m e2]
  .cases h
theorem SK.G7(s:SK)(hs:IM s=true)(x:s.C):flat (s.enc x)=true:=by
 cases s<;>first | rfl | cases hs
theorem EK.G7:∀(k:EK),k.all IM=true->∀(x:EK.C k),∀v∈EK.enc k x,flat v=true
 | [],_,_,v,h=>by cases h
 | [s],hk,x,v,h=>by
  simp only[EK.enc,AAg]at h;subst h;exact SK.G7 s (by simpa using hk) x
 | s::t::r,hk,x,v,h=>by
  simp only[EK.enc,AAw]at h;simp only[ABN,AAQ]at hk;rcases h with rfl | h
  .exact SK.G7 s hk.1 _
  .exact EK.G7 (t::r) (by simpa using hk.2) x.2 v (by simpa using h)
theorem Nv:∀(l:AL),(∀v∈l,flat v=true)->∀l',Af Z l l'->Af ν l l'
 | [],_,_,h=>by cases h;exact .nil
 | v::l,hf,_,h=>by
  cases h with
  | cons h1 h2=>
   have:=LN (hf v (by simp)) h1;subst this;exact .cons (D4 (hf _ (by simp))) (Nv l (fun w hw=>hf w (by simp[hw])) _ h2)
theorem TS{k:EK}(hk:k.all IM=true)(l:List (EK.C k)):∀v∈Ac k l,flat v=true:=by
 intro v hv;simp only[Ac,List.mem_flatMap]at hv;obtain⟨x,_,hx⟩:=hv;exact EK.G7 k hk x v hx
theorem Vg(hρ:∀b i T,ρ b=some i->Z b=some T->ν i=some T){o o1:AJ}{T:BQ}{o':Obj}(h:BF ρ o=some o1)(hr:Cb Z T o o'):Cb ν T o1 o':=by
 unfold BF at h;split at h
 .simp only[AAV]at h;obtain⟨l,hl,rfl⟩:=h;cases hr with
  | cells _ _ _ c t lo hi he hc hr hf=>
   have:=Ed _ _ hl;exact .cells T l _ _ c t lo hi he (by rw[this];exact HD (PQ hρ 6) _ _ _ hl hc) hr hf
 .rename_i l ro;simp only[AAV]at h;obtain⟨l1,hl,rfl⟩:=h;have hl:DZ (EI ρ) l=some l1:=hl;cases hr with
  | vec _ _ _ _ hc=>
   refine .vec T [.tok] l1 ro _ ?_;rw[D8]at hc ⊢;cases hc with
   | cells _ _ _ c t lo hi he hc hr hf=>
    have:=Ed _ _ hl;exact .cells T l1 _ _ c t lo hi he (by rw[this];exact HD (PQ hρ 6) _ _ _ hl hc) hr hf
  | D7 _ _ _ he hr hk=>cases hl;exact .D7 T _ _ _ he hr hk
 .rename_i l ro;simp only[AAV]at h;obtain⟨l1,hl,rfl⟩:=h;have hl2:=QJ (f:=EI ρ) (fun _=>rfl) l l1 hl;cases hr with
  | vec _ _ _ _ hc=>
   refine .vec T [.str,.tok] l1 ro _ ?_;cases hc with
   | cells _ _ _ c t lo hi he hc hr hf=>
    have:=Ed _ _ hl2;exact .cells T _ _ _ c t lo hi he (by rw[this];exact HD (PQ hρ 6) _ _ _ hl2 hc) hr hf
  | D7 _ _ _ he hr hk=>cases hl;exact .D7 T _ _ _ he hr hk
 .rename_i k l ro _ _;cases hk:k.all IM
  .simp[hk]at h
  .simp only[hk,AAO,AAN]at h;subst h;cases hr with
   | vec _ _ _ _ hc=>cases hc with
    | cells _ _ _ c t lo hi he hc hr hf=>exact .vec T _ _ _ _ (.cells T _ _ _ c t lo hi he (Nv _ (TS hk l) _ hc) hr hf)
   | D7 _ _ _ he hr hk=>exact .D7 T _ _ _ he hr hk
 .rename_i a ro;cases hx:a.HY
  .simp[hx]at h
  .simp only[hx,AAO,AAN]at h;subst h;cases hr;exact .abs T _ _ _
 .cases h
theorem QS(hρ:∀b i T,ρ b=some i->ν i=some T->Z b=some T){o o1:AJ}{T:BQ}{o':Obj}(h:BF ρ o=some o1)(hr:Cb ν T o1 o'):Cb Z T o o':=by
 unfold BF at h;split at h
 .simp only[AAV]at h;obtain⟨l,hl,rfl⟩:=h;cases hr with
  | cells _ _ _ c t lo hi he hc hr hf=>
   have:=Ed _ _ hl;exact .cells T _ _ _ c t lo hi he (by rw[<-this];exact GR (PD hρ 6) _ _ _ hl hc) hr hf
 .rename_i l ro;simp only[AAV]at h;obtain⟨l1,hl,rfl⟩:=h;have hl:DZ (EI ρ) l=some l1:=hl;have hlen:=Ed _ _ hl;cases hr with
  | vec _ _ _ _ hc=>
   refine .vec T [.tok] l ro _ ?_;rw[D8]at hc ⊢;cases hc with
   | cells _ _ _ c t lo hi he hc hr hf=>
    exact .cells T _ _ _ c t lo hi he (by rw[<-hlen];exact GR (PD hρ 6) _ _ _ hl hc) hr hf
  | D7 _ _ _ he hr hk=>
   have:l=[]:=AAp (by rw[<-hlen];rfl);subst this;exact .D7 T _ _ _ he hr hk
 .rename_i l ro;simp only[AAV]at h;obtain⟨l1,hl,rfl⟩:=h;have hl2:=QJ (f:=EI ρ) (fun _=>rfl) l l1 hl;have hlen:=Ed _ _ hl2;cases hr with
  | vec _ _ _ _ hc=>
   refine .vec T [.str,.tok] l ro _ ?_;cases hc with
   | cells _ _ _ c t lo hi he hc hr hf=>
    exact .cells T _ _ _ c t lo hi he (by rw[<-hlen];exact GR (PD hρ 6) _ _ _ hl2 hc) hr hf
  | D7 _ _ _ he hr hk=>
   have:l=[]:=AAp (by rw[<-Km _ _ hl];rfl);subst this;exact .D7 T _ _ _ he hr hk
 .rename_i k l ro _ _;cases hk:k.all IM
  .simp[hk]at h
  .simp only[hk,AAO,AAN]at h;subst h;cases hr with
   | vec _ _ _ _ hc=>cases hc with
    | cells _ _ _ c t lo hi he hc hr hf=>exact .vec T _ _ _ _ (.cells T _ _ _ c t lo hi he (Nv _ (TS hk l) _ hc) hr hf)
   | D7 _ _ _ he hr hk=>exact .D7 T _ _ _ he hr hk
 .rename_i a ro;cases hx:a.HY
  .simp[hx]at h
  .simp only[hx,AAO,AAN]at h;subst h;cases hr;exact .abs T _ _ _
 .cases h
theorem Er{o o1:AJ}(h:BF ρ o=some o1):o1.ro=o.ro/\o1.isAbs=o.isAbs/\∀a ro,o1= .abs a ro->o= .abs a ro/\a.ext=[]:=by
 unfold BF at h;split at h
 .simp only[AAV]at h;obtain⟨l,hl,rfl⟩:=h;exact⟨rfl,rfl,fun a ro e=>by cases e⟩
 .rename_i l ro;simp only[AAV]at h;obtain⟨l1,hl,rfl⟩:=h;exact⟨rfl,rfl,fun a ro e=>by cases e⟩
 .rename_i l ro;simp only[AAV]at h;obtain⟨l1,hl,rfl⟩:=h;exact⟨rfl,rfl,fun a ro e=>by cases e⟩
 .rename_i k l ro _ _;cases hk:k.all IM
  .simp[hk]at h
  .simp only[hk,AAO,AAN]at h;subst h;exact⟨rfl,rfl,fun a ro e=>by cases e⟩
 .rename_i a ro;cases hx:a.HY
  .simp[hx]at h
  .simp only[hx,AAO,AAN]at h;subst h;exact⟨rfl,rfl,fun a2 ro2 e=>by cases e;exact⟨rfl,CR.Qu hx⟩⟩
 .cases h
theorem CK{o o1:AJ}(h:BF ρ o=some o1)(T:BQ):o1.void T <-> o.void T:=by
 unfold BF at h;split at h
 .simp only[AAV]at h;obtain⟨l,hl,rfl⟩:=h;exact ACI
 .rename_i l ro;simp only[AAV]at h;obtain⟨l1,hl,rfl⟩:=h;have hlen:=Ed _ _ (show DZ (EI ρ) l=some l1 from hl);have e:l1=[] <-> l=[]:=⟨fun e=>AAp (by rw[<-hlen,e];rfl),fun e=>AAp (by rw[hlen,e];rfl)⟩;exact ADU e ACI
 .rename_i l ro;simp only[AAV]at h;obtain⟨l1,hl,rfl⟩:=h;have hlen:=Km _ _ hl;have e:l1=[] <-> l=[]:=⟨fun e=>AAp (by rw[<-hlen,e];rfl),fun e=>AAp (by rw[hlen,e];rfl)⟩;exact ADU e ACI
 .rename_i k l ro _ _;cases hk:k.all IM
  .simp[hk]at h
  .simp only[hk,AAO,AAN]at h;subst h;exact ACI
 .rename_i a ro;cases hx:a.HY
  .simp[hx]at h
  .simp only[hx,AAO,AAN]at h;subst h;exact ACI
 .cases h
end
def o7(Hc H H':AA)(ρ:Ren)(v vc:Value)(Hf:AA):Prop:=∃ρ':Ren,
 (∀b1 b2 i,ρ' b1=some i->ρ' b2=some i->b1=b2)/\(∀b,b < Hc.next->ρ' b=ρ b)/\(∀b i,ρ' b=some i->Hc.next<=b->H.next<=i/\i < H'.next)/\
 (∀i o,H'.get i=some o->(H.next<=i\/∃b o0,Hc.get b=some o0/\o0.ro=false/\ρ b=some i)->∃b o0,ρ' b=some i/\Hf.get b=some o0/\BF ρ' o0=some o/\o0.ro=false)/\
 EI ρ' vc=some v
abbrev Rn:=Nat->Option Nat
def lO(ρ:Rn):Fn->Option Fn
 | .yield l=>(ρ l).map .yield
 | f=>some f
def Vb(ρ:Rn):Nat->Value->Value
 | 0,_=>Bo
 | n+1,v=>match v with
  | .pointer (some ⟨b,o,s⟩)=>match ρ b with
   | some i=> .pointer (some ⟨i,o,s⟩)
   | none=>Bo
  | .slice (some ⟨b,o,s⟩) l c=>match ρ b with
   | some i=> .slice (some ⟨i,o,s⟩) l c
   | none=>Bo
  | .map (some b)=>match ρ b with
   | some i=> .map (some i)
   | none=>Bo
  | .iface t v=> .iface t (Vb ρ n v)
  | .agg cs=> .agg ⟨cs.toList.map (Vb ρ n)⟩
  | .tuple cs=> .tuple ⟨cs.toList.map (Vb ρ n)⟩
  | .func f xs ys=>match lO ρ f with
   | some f'=> .func f' ⟨xs.toList.map (Vb ρ n)⟩ ⟨ys.toList.map (Vb ρ n)⟩
   | none=>Bo
  | v=>v
abbrev NT(ρ:Rn)(v:Value):Value:=Vb ρ 8 v
section
variable {ρ:Rn}{Z ν:AW}
theorem VU(hρ:∀b i T,ρ b=some i->Z b=some T->ν i=some T){f g f':Fn}(h:lO ρ f=some g)(hr:Ic Z f f'):Ic ν g f':=by
 cases hr with
 | func f=>cases h;exact .func f
 | method n=>cases h;exact .method n
 | methodOf t n=>cases h;exact .methodOf t n
 | via t p f b=>cases h;exact .via t p f b
 | yield l T hm=>
  simp only[lO,AAV]at h;obtain⟨i,hi,rfl⟩:=h;exact .yield i T (hρ _ _ _ hi hm)
theorem G6{f:Value->Value}(hf:∀v v',AF Z v v'->AF ν (f v) v'):∀{l l':AL},Af Z l l'->Af ν (l.map f) l'
 | _,_,.nil=> .nil
 | _,_,.cons h t=> .cons (hf _ _ h) (G6 hf t)
theorem Ix(hρ:∀b i T,ρ b=some i->Z b=some T->ν i=some T):∀(n:Nat)(v v':Value),AF Z v v'->AF ν (Vb ρ n v) v':=by
 intro n;induction n with
 | zero=>intro v v' _;exact .Bo _
 | succ n ih=>
  intro v v' hr;cases hr with
  | Bo=>exact .Bo _
  | bool b=>exact .bool b
  | int k m=>exact .int k m
  | float k m=>exact .float k m
  | string s=>exact .string s
  | IX=>exact .IX
  | Cc l c=>exact .Cc l c
  | IQ=>exact .IQ
  | nilFunc=>exact .nilFunc
  | nilIface=>exact .nilIface
  | ptr b o T hm=>
   simp only[Vb];cases hb:ρ b with
   | none=>exact .Bo _
   | some i=>exact .ptr i o T (hρ _ _ _ hb hm)
  | Hn b o j T M hm hm2 hcu=>
   simp only[Vb];cases hb:ρ b with
   | none=>exact .Bo _
   | some i=>exact .Hn i o j T M (hρ _ _ _ hb hm) hm2 hcu
  | HV b o j T hm hlo=>
   simp only[Vb];cases hb:ρ b with
   | none=>exact .Bo _
   | some i=>exact .HV i o j T (hρ _ _ _ hb hm) hlo
  | slice b o l c c' o' T hm hc ho=>
   simp only[Vb];cases hb:ρ b with
   | none=>exact .Bo _
   | some i=>exact .slice i o l c c' o' T (hρ _ _ _ hb hm) hc ho
  | Bd b j l c c' o' T hm hc ho hr=>
   simp only[Vb];cases hb:ρ b with
   | none=>exact .Bo _
   | some i=>exact .Bd i j l c c' o' T (hρ _ _ _ hb hm) hc ho hr
  | Dz b j c T z hm hc=>
   simp only[Vb];cases hb:ρ b with
   | none=>exact .Bo _
   | some i=>exact .Dz i j c T z (hρ _ _ _ hb hm) hc
  | C9 b j l c c' o' T M hm hm2 hc ho hr=>
   simp only[Vb];cases hb:ρ b with
   | none=>exact .Bo _
   | some i=>exact .C9 i j l c c' o' T M (hρ _ _ _ hb hm) hm2 hc ho hr
  | GI b j c T z hm hc=>
   simp only[Vb];cases hb:ρ b with
   | none=>exact .Bo _
   | some i=>exact .GI i j c T z (hρ _ _ _ hb hm) hc
  | map b T hm=>
   simp only[Vb];cases hb:ρ b with
   | none=>exact .Bo _
   | some i=>exact .map i T (hρ _ _ _ hb hm)
  | iface t a a' ha=>exact .iface t _ a' (ih _ _ ha)
  | agg xs xs' hx ex=>
   obtain⟨ys,he,hl⟩:=AF.Cr.1 (.agg xs xs' hx ex);cases he
   exact AF.Cr.2 ⟨_,rfl,G6 ih hl⟩
  | tuple xs xs' hx ex=>
   obtain⟨ys,he,hl⟩:=AF.CM.1 (.tuple xs xs' hx ex);cases he
   exact AF.CM.2 ⟨_,rfl,G6 ih hl⟩
  | func fn fn' xs xs' ys ys' hf hx ex hy ey=>
   obtain⟨fn2,xs2,ys2,he,hf2,hx2,hy2⟩:=AF.Cd.1 (.func fn fn' xs xs' ys ys' hf hx ex hy ey);cases he
   simp only[Vb];cases hb:lO ρ fn with
   | none=>exact .Bo _
   | some g=>exact AF.Cd.2 ⟨_,_,_,rfl,VU hρ hb hf2,G6 ih hx2,G6 ih hy2⟩
end
def Tr.ZC(f:Value->Value)(t:Tr Value):Tr Value:=
 Tr.rec (motive:=fun _=>Tr Value) .leaf (fun _ v _ ihl ihr=> .node ihl (v.map f) ihr) t
theorem Tr.We(f:Value->Value)(t:Tr Value)(i:Nat):(t.ZC f).get i=(t.get i).map f:=by
 unfold Tr.get;generalize Hl.of i=p;induction t generalizing p with
 | leaf=>cases p<;>rfl
 | node l v r ihl ihr=>
  cases p with
  | e=>rfl
  | z p=>exact ihl p
  | o p=>exact ihr p
def Qw(f:Value->Value)(t:Tr Value):AP->Tr Value
 | []=> .leaf
 | i::r=>(Qw f t r).put i (some (f (look t i)))
theorem Jf(f:Value->Value)(t:Tr Value):∀(l:AP)(i:Nat),look (Qw f t l) i=Bo\/look (Qw f t l) i=f (look t i)
 | [],i=> .inl rfl
 | j::r,i=>by
  unfold Qw look;rw[Tr.AQ]
  by_cases e:i=j
  .subst e;rw[AAZ rfl];exact .inr rfl
  .rw[AAW e];exact Jf f t r i
section
variable {ρ:Rn}{Z ν:AW}
theorem RB(hρ:∀b i T,ρ b=some i->Z b=some T->ν i=some T){t:Tr Value}{n:Nat}{a:BE}(h:Gt Z t n a):Gt ν (t.ZC (NT ρ)) n a:=by
 refine⟨h.1,fun i=>?_⟩;have:=h.2 i;unfold look at this ⊢;rw[Tr.We];cases hg:t.get i with
 | none=>exact .Bo _
 | some v=>rw[hg]at this;exact Ix hρ 8 _ _ this
theorem Sq(hρ:∀b i T,ρ b=some i->Z b=some T->ν i=some T){t:Tr Value}{n:Nat}{a:BE}(h:Gt Z t n a)(l:AP):Gt ν (Qw (NT ρ) t l) n a:=by
 refine⟨h.1,fun i=>?_⟩;rcases Jf (NT ρ) t l i with e | e
 .rw[e];exact .Bo _
 .rw[e];exact Ix hρ 8 _ _ (h.2 i)
end
def iT(ρ:Rn):Cs->Option Cs
 | .E0 _ _=>none
 | .inRangeFunc l=>(ρ l).map .inRangeFunc
 | .endRangeFunc l=>(ρ l).map .endRangeFunc
 | x=>some x
def QA(ρ:Rn):List Cs->Option (List Cs)
 | []=>some []
 | x::r=>match iT ρ x,QA ρ r with
  | some y,some l=>some (y::l)
  | _,_=>none
def nN(ρ:Rn):Target->Option Target
 | .collected b=>(ρ b).map .collected
 | .fn f ys=>(lO ρ f).map fun g=> .fn g ⟨ys.toList.map (NT ρ)⟩
 | t=>some t
def dk(ρ:Rn):List Deferred->Option (List Deferred)
 | []=>some []
 | d::r=>match nN ρ d.target,dk ρ r with
  | some t,some l=>some (⟨t,⟨d.args.toList.map (NT ρ)⟩⟩::l)
  | _,_=>none
def na(ρ:Rn):Option Nat->Option (Option Nat)
 | none=>some none
 | some l=>(ρ l).map some
section
variable {ρ:Rn}{Z ν:AW}
theorem ic(hρ:∀b i T,ρ b=some i->Z b=some T->ν i=some T){x y:Cs}{x':Item}(h:iT ρ x=some y)(hr:Im Z x x'):Im ν y x':=by
 cases hr with
 | code c=>cases h;exact .code c
 | inBlock i=>cases h;exact .inBlock i
 | inLoop c=>cases h;exact .inLoop c
 | inScope c=>cases h;exact .inScope c
 | Ks ops l idx hh=>cases h;exact .Ks ops l idx hh
 | beginRound=>cases h;exact .beginRound
 | inRangeFunc l T hm=>
  simp only[iT,AAV]at h;obtain⟨i,hi,rfl⟩:=h;exact .inRangeFunc i T (hρ _ _ _ hi hm)
 | endRangeFunc l T hm=>
  simp only[iT,AAV]at h;obtain⟨i,hi,rfl⟩:=h;exact .endRangeFunc i T (hρ _ _ _ hi hm)
theorem JL(hρ:∀b i T,ρ b=some i->Z b=some T->ν i=some T){l l1:List Cs}{l':List Item}(h:QA ρ l=some l1)(hr:Et Z l l'):Et ν l1 l':=by
 induction hr generalizing l1 with
 | nil=>cases h;exact .nil
 | cons hx _ ih=>
  simp only[QA]at h;split at h
  .rename_i y m e1 e2;cases h;exact .cons (ic hρ e1 hx) (ih e2)
  .cases h
theorem lR(hρ:∀b i T,ρ b=some i->Z b=some T->ν i=some T){t t1 t':Target}(h:nN ρ t=some t1)(hr:Iz Z t t'):Iz ν t1 t':=by
 cases hr with
 | nil=>cases h;exact .nil
 | builtin b ts t cs=>cases h;exact .builtin b ts t cs
 | collected r T hm=>
  simp only[nN,AAV]at h;obtain⟨i,hi,rfl⟩:=h;exact .collected i T (hρ _ _ _ hi hm)
 | fn fn fn' ys ys' hf hy=>
  simp only[nN,AAV]at h;obtain⟨g,hg,rfl⟩:=h;exact .fn _ _ _ _ (VU hρ hg hf) (G6 (Ix hρ 8) hy)
theorem JY(hρ:∀b i T,ρ b=some i->Z b=some T->ν i=some T){l l1 l':List Deferred}(h:dk ρ l=some l1)(hr:Ch Z l l'):Ch ν l1 l':=by
 induction hr generalizing l1 with
 | nil=>cases h;exact .nil
 | cons hx _ ih=>
  simp only[dk]at h;split at h
  .rename_i t m e1 e2;cases h;exact .cons ⟨lR hρ e1 hx.yH,G6 (Ix hρ 8) hx.args⟩ (ih e2)
  .cases h
theorem Kc(hρ:∀b i T,ρ b=some i->Z b=some T->ν i=some T){x y:Option Nat}{x':Option Nat}(h:na ρ x=some y)(hr:HZ Z x x'):HZ ν y x':=by
 cases hr with
 | none=>cases h;exact .none
 | some l T hm=>
  simp only[na,AAV]at h;obtain⟨i,hi,rfl⟩:=h;exact .some i T (hρ _ _ _ hi hm)
end
def F8:SK->Bool
 | .tok=>false
 | _=>true
def sR(ρ:Rn)(l:List MapEntry):List MapEntry:=l.map fun e=>⟨NT ρ e.key,NT ρ e.val,e.born⟩
def Xc(ρ:Rn)(l:List (EK.C [.str,.tok])):List (EK.C [.str,.tok]):=List.map (fun x=>(x.1,NT ρ x.2)) l
theorem aW(ρ:Rn):∀l:List (EK.C [.str,.tok]),Ac [.str,.tok] (Xc ρ l)=List.map (NT ρ) (Ac [.str,.tok] l)
 | []=>rfl
 | x::r=>by
  have ih:=aW ρ r;show Value.string x.1::NT ρ x.2::Ac [.str,.tok] (Xc ρ r)=_;rw[ih];rfl
def Uw(ρ:Rn):AJ->Option AJ
 | .cells cs e ro=>some (.cells (cs.map (NT ρ)) e ro)
 | .vec [.tok] l ro=>some (.vec [.tok] (List.map (NT ρ) l) ro)
 | .vec [.str,.tok] l ro=>some (.vec [.str,.tok] (Xc ρ l) ro)
 | .vec k l ro=>bif k.all F8 then some (.vec k l ro)else none
 | .abs a ro=>bif a.HY then some (.abs a ro)else none
 | .Cv s p=>some (.Cv s p)
 | .deferred none=>some (.deferred none)
 | .deferred (some l)=>(dk ρ l).map fun l=> .deferred (some l)
 | .map es clock=>some (.map (sR ρ es) clock)
 | .loop q=>(ρ q.defers).map fun d=> .loop ⟨q.state,q.pending,q.fn,q.tmps.ZC (NT ρ),q.n,q.params,q.assign,q.body,d⟩
section
variable {ρ:Rn}{Z ν:AW}
theorem Z3:∀(k:EK),k.all F8=true->∀(x:EK.C k)(v:Value),v∈EK.enc k x->∃s y,F8 s=true/\v=SK.enc s y
 | [],_,_,v,h=>by cases h
 | [s],hk,x,v,h=>by
  simp only[EK.enc,AAg]at h;exact⟨s,x,by simpa using hk,h⟩
 | s::t::r,hk,x,v,h=>by
  simp only[EK.enc,AAw]at h;have hk:F8 s=true/\(t::r).all F8=true:=by simpa only[ABN,AAQ] using hk
  rcases h with h | h
  .exact⟨s,x.1,hk.1,h⟩
  .exact Z3 (t::r) hk.2 x.2 v h
theorem Mj(k:EK)(hk:k.all F8=true)(l:List (EK.C k)){l':AL}(h:Af Z (Ac k l) l'):Af ν (Ac k l) l':=by
 have hs:∀(s:SK),F8 s=true->∀(x:s.C)(v':Value),AF Z (s.enc x) v'->AF ν (s.enc x) v':=by
  intro s hs x v' h;cases s with
  | int k=>have h:AF Z (.int k x) v':=h;cases h;exact .int _ _
  | bool=>have h:AF Z (.bool x) v':=h;cases h;exact .bool _
  | str=>have h:AF Z (.string x) v':=h;cases h;exact .string _
  | tok=>cases hs
 have key:∀(vs:AL),(∀v∈vs,∃s x,F8 s=true/\v=SK.enc s x)->∀l',Af Z vs l'->Af ν vs l':=by
  intro vs;induction vs with
  | nil=>intro _ l' h;cases h;exact .nil
  | cons v vs ih=>
   intro hv l' h;cases h with
   | cons h1 h2=>
    obtain⟨s,x,a,rfl⟩:=hv v (by simp);exact .cons (hs s a x _ h1) (ih (fun w hw=>hv w (by simp[hw])) _ h2)
 refine key _ ?_ _ h;intro v hv;unfold Ac at hv;rw[List.mem_flatMap]at hv;obtain⟨x,_,hx⟩:=hv;exact Z3 k hk x v hx
theorem eD(l:List (EK.C [.tok])):Ac [.tok] l=l:=by
 induction l with
 | nil=>rfl
 | cons x l ih=>rw[D3,ih];rfl
theorem PF{k:EK}{l:List (EK.C k)}{ro:Bool}{o1:AJ}(h:Uw ρ (.vec k l ro)=some o1):(∃l':List (EK.C [.tok]),(⟨k,l⟩:(k:EK) × List (EK.C k))=⟨[.tok],l'⟩/\o1= .vec [.tok] (List.map (NT ρ) l') ro)\/(k.all F8=true/\o1= .vec k l ro)\/
 (∃l':List (EK.C [.str,.tok]),(⟨k,l⟩:(k:EK) × List (EK.C k))=⟨[.str,.tok],l'⟩/\o1= .vec [.str,.tok] (Xc ρ l') ro):=by
 unfold Uw at h;split at h
 .rename_i heq;cases heq
 .rename_i l2 ro2 he;cases he
  cases h
  exact .inl ⟨l2,rfl,rfl⟩
 .rename_i l2 ro2 he;cases he
  cases h
  exact .inr (.inr ⟨l2,rfl,rfl⟩)
 .rename_i k2 l2 ro2 hne hne2 he;injection he with e1 e2 e3
  subst e1;cases e2
  subst e3;cases hk:k.all F8
  .simp[hk]at h
  .simp only[hk,AAO,AAN]at h;exact .inr (.inl ⟨rfl,h.symm⟩)
 all_goals (rename_i heq;cases heq)
theorem aq(hρ:∀b i T,ρ b=some i->Z b=some T->ν i=some T){o o1:AJ}{T:BQ}{o':Obj}(h:Uw ρ o=some o1)(hr:Cb Z T o o'):Cb ν T o1 o':=by
 cases hr with
 | cells cs e ro c t lo hi he hc hs hf=>
  simp only[Uw,AAN]at h;subst h;refine .cells T _ e ro c t lo hi he ?_ hs hf;rw[ABI];exact G6 (Ix hρ 8) hc
 | loop l a R ht hd=>
  simp only[Uw,AAV]at h;obtain⟨d,hd1,rfl⟩:=h;exact .loop T ⟨l.state,l.pending,l.fn,l.tmps.ZC (NT ρ),l.n,l.params,l.assign,l.body,d⟩ a R (RB hρ ht) (hρ _ _ _ hd1 hd)
 | El=>cases h;exact .El T
 | deferred l l' hl=>
  simp only[Uw,AAV]at h;obtain⟨d,hd1,rfl⟩:=h;exact .deferred T _ _ (JY hρ hd1 hl)
 | Cv s p hd=>cases h;exact .Cv T s p hd
 | map es es' clock he=>
  simp only[Uw,AAN]at h;subst h;refine .map T _ es' clock ?_;generalize es'.toList=q at he;induction he with
  | nil=>exact .nil
  | cons hk hv hb _ ih=>exact .cons (Ix hρ 8 _ _ hk) (Ix hρ 8 _ _ hv) hb ih
 | vec k l ro o hc=>
  rcases PF h with⟨l2,e,rfl⟩ | ⟨hk,rfl⟩ | ⟨l2,e,rfl⟩
  .cases e
   refine .vec T [.tok] _ ro o' ?_;rw[eD]at hc ⊢;cases hc with
   | cells cs e ro c t lo hi he hc hs hf=>
    refine .cells T _ _ ro c t lo hi he ?_ hs hf;rw[ABI];exact G6 (Ix hρ 8) hc
  .refine .vec T k l ro o' ?_;cases hc with
   | cells cs e ro c t lo hi he hc hs hf=>exact .cells T _ _ ro c t lo hi he (Mj k hk l hc) hs hf
  .cases e
   refine .vec T [.str,.tok] _ ro o' ?_;rw[aW];cases hc with
   | cells cs e ro c t lo hi he hc hs hf=>
    refine .cells T _ _ ro c t lo hi he ?_ hs hf;rw[ABI];exact G6 (Ix hρ 8) hc
 | D7 k ro o he hr hk0=>
  rcases PF h with⟨l2,e,rfl⟩ | ⟨hk,rfl⟩ | ⟨l2,e,rfl⟩
  .cases e
   exact .D7 T [.tok] ro _ he hr hk0
  .exact .D7 T k ro _ he hr hk0
  .cases e
   exact .D7 T [.str,.tok] ro _ he hr hk0
 | abs a ro o=>
  simp only[Uw]at h;cases hx:a.HY
  .simp[hx]at h
  .simp only[hx,AAO,AAN]at h;subst h;exact .abs T a ro o'
theorem HE{o o1:AJ}(h:Uw ρ o=some o1)(T:BQ):o1.void T <-> o.void T:=by
 cases o with
 | cells cs e ro=>cases h;exact ACI
 | vec k l ro=>
  rcases PF h with⟨l2,e,rfl⟩ | ⟨hk,rfl⟩ | ⟨l2,e,rfl⟩
  .cases e
   exact ADU (by simp) ACI
  .exact ACI
  .cases e
   exact ADU (by simp[Xc]) ACI
 | abs a ro=>
  simp only[Uw]at h;cases hx:a.HY
  .simp[hx]at h
  .simp only[hx,AAO,AAN]at h;subst h;exact ACI
 | Cv s p=>cases h;exact ACI
 | deferred d=>
  cases d with
  | none=>cases h;exact ACI
  | some l=>
   simp only[Uw,AAV]at h;obtain⟨d,_,rfl⟩:=h;exact ACI
 | map es clock=>cases h;exact ACI
 | loop q=>
  simp only[Uw,AAV]at h;obtain⟨d,_,rfl⟩:=h;exact ACI
theorem HP{o o1:AJ}(h:Uw ρ o=some o1):o1.ro=o.ro/\o1.isAbs=o.isAbs/\∀a ro,o1= .abs a ro->o= .abs a ro/\a.ext=[]:=by
 cases o with
 | cells cs e ro=>cases h;exact⟨rfl,rfl,fun _ _ e=>by cases e⟩
 | vec k l ro=>
  rcases PF h with⟨l2,e,rfl⟩ | ⟨hk,rfl⟩ | ⟨l2,e,rfl⟩
  .cases e
   exact⟨rfl,rfl,fun _ _ e=>by cases e⟩
  .exact⟨rfl,rfl,fun _ _ e=>by cases e⟩
  .cases e
   exact⟨rfl,rfl,fun _ _ e=>by cases e⟩
 | abs a ro=>
  simp only[Uw]at h;cases hx:a.HY
  .simp[hx]at h
  .simp only[hx,AAO,AAN]at h;subst h
   exact⟨rfl,rfl,fun _ _ e=>by cases e;exact⟨rfl,CR.Qu hx⟩⟩
 | Cv s p=>cases h;exact⟨rfl,rfl,fun _ _ e=>by cases e⟩
 | deferred d=>
  cases d with
  | none=>cases h;exact⟨rfl,rfl,fun _ _ e=>by cases e⟩
  | some l=>
   simp only[Uw,AAV]at h;obtain⟨d,_,rfl⟩:=h;exact⟨rfl,rfl,fun _ _ e=>by cases e⟩
 | map es c=>cases h;exact⟨rfl,rfl,fun _ _ e=>by cases e⟩
 | loop q=>
  simp only[Uw,AAV]at h;obtain⟨d,_,rfl⟩:=h;exact⟨rfl,rfl,fun _ _ e=>by cases e⟩
end
def WX(b:Nat):AP->Nat->Option Nat
 | [],_=>none
 | i::r,k=>bif Nat.beq b i then some k else WX b r (k+1)
def Fk(N:Nat)(ids:AP):Rn:=fun b=>bif Nat.blt b N then some b else WX b ids N
theorem Py{b:Nat}:∀{ids:AP}{k i:Nat},WX b ids k=some i->k<=i/\i < k+ids.length/\ids[i - k]? = some b
 | [],k,i,h=>by cases h
 | a::r,k,i,h=>by
  unfold WX at h;cases hb:Nat.beq b a
  .simp only[hb,AAR]at h;obtain⟨h1,h2,h3⟩:=Py h;refine⟨by omega,by simp only[AAz];omega,?_⟩;rw[show i - k=(i - (k+1))+1 by omega,ABK];exact h3
  .simp only[hb,AAO,AAN]at h;subst h;refine⟨AAT _,by simp,?_⟩;rw[ABQ,AAP hb];rfl
def Dd(N:Nat)(ids:AP)(i:Nat):Option Nat:=if i < N then some i else ids[i - N]?
theorem F4{N:Nat}{ids:AP}{b i:Nat}(h:Fk N ids b=some i):Dd N ids i=some b:=by
 unfold Fk at h;unfold Dd;cases hb:Nat.blt b N
 .simp only[hb,AAR]at h;obtain⟨h1,h2,h3⟩:=Py h;rw[AAW (by omega)];exact h3
 .simp only[hb,AAO,AAN]at h;subst h;rw[AAZ (show b < N from VC hb)]
def Q8(ρ:Rn)(m:Tr AJ):AP->Option (Tr AJ)
 | []=>some .leaf
 | b::r=>match Q8 ρ m r with
  | some t=>match ρ b,m.get b with
   | some i,some o=>match Uw ρ o with
    | some o1=>some (t.put i (some o1))
    | none=>none
   | _,_=>none
  | none=>none
theorem B9{ρ:Rn}{m:Tr AJ}:∀{l:AP}{t:Tr AJ},Q8 ρ m l=some t->∀i o1,t.get i=some o1->∃b o,ρ b=some i/\m.get b=some o/\Uw ρ o=some o1
 | [],t,h,i,o1,hg=>by cases h;cases hg
 | b::r,t,h,i,o1,hg=>by
  simp only[Q8]at h;split at h
  .rename_i t0 h0;split at h
   .rename_i j o hj ho;split at h
    .rename_i o2 h2;cases h
     rw[Tr.AQ]at hg
     by_cases e:i=j
     .subst e;rw[AAZ rfl]at hg;cases hg;exact⟨b,o,hj,ho,h2⟩
     .rw[AAW e]at hg;exact B9 h0 i o1 hg
    .cases h
   .cases h
  .cases h
def Qy(ρ:Rn)(live:Option (AP)):Ae->Option Ae
 | ⟨fn,t,n,todo,ds,r,kd,rd⟩=>match QA ρ todo,dk ρ ds,na ρ rd with
  | some todo',some ds',some rd'=>some ⟨fn,match live with | some l=>Qw (NT ρ) t l | none=>t.ZC (NT ρ),n,todo',ds',r,kd,rd'⟩
  | _,_,_=>none
def aJ(ρ:Rn):List Ae->Option (List Ae)
 | []=>some []
 | f::r=>match Qy ρ none f,aJ ρ r with
  | some g,some l=>some (g::l)
  | _,_=>none
def yn(N:Nat)(Ao ids:AP)(live:AP)(c:BU):Option BU:=
 match Qy (Fk N ids) (some live) c.fr,aJ (Fk N ids) c.cs,Q8 (Fk N ids) c.H.m Ao with
 | some fr,some cs,some m=>some ⟨fr,cs,⟨m,N+ids.length⟩⟩
 | _,_,_=>none
def BA(X:Ctx)(N:Nat)(c:BU)(Φ:Cy):Prop:=∀(base:Env)(W0:World),(∀b T,base.gN b=some T->b < N)->En X base W0->HR X->∀(cs0:List Frame)(Z:AW)(fr:Frame)(cs:List Frame)(W:World),JD X base W0 Z c fr cs W->∃c',Φ c'/\DW X base W0 cs0 c' (lone fr (cs++cs0) W)
section
variable {X:Ctx}{N:Nat}
theorem Reach.Td{c:BU}{Φ:Cy}(h:Reach X c Φ):BA X N c Φ:=fun base W0 _=>h base W0
theorem BA.here{c:BU}{Φ:Cy}(h:Φ c):BA X N c Φ:=(Reach.here h).Td
theorem BA.bind{c:BU}{Φ Ψ:Cy}(h:BA X N c Φ)(h':∀c',Φ c'->BA X N c' Ψ):BA X N c Ψ:=by
 intro base W0 hb hok hplan cs0 Z fr cs W hm;obtain⟨c1,p1,μ1,fr1,cs1,W1,s1,m1⟩:=h base W0 hb hok hplan cs0 Z fr cs W hm;obtain⟨c2,p2,μ2,fr2,cs2,W2,s2,m2⟩:=h' c1 p1 base W0 hb hok hplan cs0 μ1 fr1 cs1 W1 m1;exact⟨c2,p2,μ2,fr2,cs2,W2,s1.trans s2,m2⟩
theorem BA.mono{c:BU}{Φ Ψ:Cy}(h:BA X N c Φ)(hi:∀c',Φ c'->Ψ c'):BA X N c Ψ:=h.bind fun c' hc=> .here (hi c' hc)
theorem Kk{ρ:Rn}{l m:List Cs}(h:QA ρ l=some m):∀ops p k,l≠ .E0 ops p::k:=by
 rintro ops p k rfl;simp[QA,iT]at h
theorem bc{ρ:Rn}{Z ν:AW}{H H':AA}(hρ:∀b i T,ρ b=some i->Z b=some T->ν i=some T){g:AP}{l l1:List Ae}{l':List Frame}(h:aJ ρ l=some l1)(hr:EJ X Z H g l l'):EJ X ν H' [] l1 l':=by
 induction hr generalizing l1 with
 | nil=>cases h;exact .nil
 | cons hf _ ih=>
  simp only[aJ]at h;split at h
  .rename_i f1 m e1 e2;cases h
   refine .cons (g:=[]) (gs:=[]) ?_ (ih e2);cases hf with
   | plain fn t n tm todo todo' ds ds' r kd rd rd' ht hi hd hr=>
    simp only[Qy]at e1;split at e1
    .rename_i a b c h1 h2 h3;cases e1
     exact .plain _ _ _ _ _ _ _ _ _ _ _ _ (RB hρ ht) (JL hρ h1 hi) (JY hρ h2 hd) (Kc hρ h3 hr)
    .cases e1
   | Ka fn t n tm ops x o rest idx D G k k' ds ds' kd rd rd' ho hD hk hd hr=>
    simp only[Qy]at e1;split at e1
    .rename_i a b c h1 h2 h3;exact absurd rfl (Kk h1 _ _ _)
    .cases e1
  .cases h
theorem XY{M:Nat}(hMN:M<=N){Ao ids live:AP}{c c':BU}{Φ:Cy}(hl:(X.laid.all fun p=>Nat.blt p.1 N)=true)(h:yn N Ao ids live c=some c')(hr:BA X M c' Φ):BA X M c Φ:=by
 intro base W0 hb hok hplan cs0 Z fr cs W hm;suffices hs:∃μ',JD X base W0 μ' c' fr cs W by
  obtain⟨μ',hm'⟩:=hs;exact hr base W0 hb hok hplan cs0 μ' fr cs W hm'
 obtain⟨hH,hlaid,g,gs,hfr,hcs,hnd⟩:=hm;unfold yn at h;split at h
 .rename_i fr1 cs1 m1 e1 e2 e3;cases h
  let ν:AW:=fun i=>(Dd N ids i).bind Z
  have hν:∀b i T,Fk N ids b=some i->Z b=some T->ν i=some T:=by
   intro b i T h1 h2;show(Dd N ids i).bind Z=_;rw[F4 h1];exact h2
  have hν':∀b i T,Fk N ids b=some i->ν i=some T->Z b=some T:=by
   intro b i T h1 h2;have h2:(Dd N ids i).bind Z=some T:=h2;rw[F4 h1]at h2;exact h2
  have hlow:∀i,i < N->ν i=Z i:=by
   intro i hi;show(Dd N ids i).bind Z=_;unfold Dd;rw[AAZ hi];rfl
  refine⟨ν,⟨?_,?_,?_,?_,?_,hH.size,hH.below,hH.out,hH.os,?_,?_,hH.grow⟩,?_,[],[],?_,bc hν e2 hcs,by simp⟩
  .intro i o1 hi T hT;obtain⟨b,o,r1,r2,r3⟩:=B9 e3 i o1 hi;obtain⟨o',q1,q2⟩:=hH.obj b o r2 T (hν' _ _ _ r1 hT);exact⟨o',q1,aq hν r3 q2⟩
  .intro i o1 hi hro T hT hv;obtain⟨b,o,r1,r2,r3⟩:=B9 e3 i o1 hi;exact hH.own b o r2 (by rw[<-(HP r3).1];exact hro) T (hν' _ _ _ r1 hT) (fun hw=>hv ((HE r3 T).2 hw))
  .intro i1 i2 o1 o2 h1 h2 T1 T2 t1 t2 v1 v2 hcc hrr;obtain⟨b1,p1,r1,r2,r3⟩:=B9 e3 i1 o1 h1;obtain⟨b2,p2,s1,s2,s3⟩:=B9 e3 i2 o2 h2;have:=hH.inj b1 b2 p1 p2 r2 s2 T1 T2 (hν' _ _ _ r1 t1) (hν' _ _ _ s1 t2) (fun hw=>v1 ((HE r3 T1).2 hw)) (fun hw=>v2 ((HE s3 T2).2 hw)) hcc (by rw[<-(HP r3).1,<-(HP s3).1];exact hrr);subst this;rw[r1]at s1;cases s1;rfl
  .intro i hi;have hi:N+ids.length<=i:=hi;have hnone:Dd N ids i=none:=by
    unfold Dd;rw[AAW (by omega),AAq (by omega)]
   constructor
   .cases hg:(AA.mk m1 (N+ids.length)).get i with
    | none=>rfl
    | some o1=>
     obtain⟨b,o,r1,_⟩:=B9 e3 i o1 hg;rw[F4 r1]at hnone;cases hnone
   .show(Dd N ids i).bind Z=none;rw[hnone];rfl
  .intro i T hT;have hT:(Dd N ids i).bind Z=some T:=hT;cases hbk:Dd N ids i with
   | none=>rw[hbk]at hT;cases hT
   | some b=>rw[hbk]at hT;exact hH.bound b T hT
  .obtain⟨φ,q⟩:=hH.abs;refine⟨fun i=>match Dd N ids i with | some b=>φ b | none=>fun _=>False,?_,?_⟩
   .intro i a ro T hi hT;obtain⟨b,o,r1,r2,r3⟩:=B9 e3 i _ hi;obtain⟨this,hext⟩:=(HP r3).2.2 a ro rfl;subst this;simp only[F4 r1];obtain⟨w1,w2⟩:=q.rep b a ro T r2 (hν' _ _ _ r1 hT);exact⟨w1.closed _ hext,w2⟩
   .intro i a ro T hi hT i2 o2 T2 hi2 hT2 hne;obtain⟨b,o,r1,r2,r3⟩:=B9 e3 i _ hi;obtain⟨this,hext⟩:=(HP r3).2.2 a ro rfl;subst this;obtain⟨b2,p2,s1,s2,s3⟩:=B9 e3 i2 _ hi2;simp only[F4 r1,F4 s1];obtain⟨u1,u2⟩:=q.C3 b a ro T r2 (hν' _ _ _ r1 hT) b2 p2 T2 s2 (hν' _ _ _ s1 hT2) (by rintro rfl;rw[r1]at s1;cases s1;exact hne rfl);exact⟨fun hv2=>u1 (fun hw=>hv2 ((HE s3 T2).2 hw)),fun ea=>u2 (by rw[<-(HP s3).2.1];exact ea)⟩
  .intro b T hT;rw[hlow b (ABR (hb b T hT) hMN)];exact hH.le b T hT
  .intro gl hgl;obtain⟨T,h1,h2⟩:=hlaid gl hgl;have:gl < N:=by
    rw[ACs]at hgl;obtain⟨p,hp,hpe⟩:=hgl;have h3:=List.all_eq_true.1 hl p hp;rw[AAP hpe];exact VC h3
   exact⟨T,by rw[hlow gl this];exact h1,h2⟩
  .generalize c.fr=cf at e1 hfr;cases hfr with
   | plain fn t n tm todo todo' ds ds' r kd rd rd' ht hi hd hrr=>
    simp only[Qy]at e1;split at e1
    .rename_i a b c h1 h2 h3;cases e1
     exact .plain _ _ _ _ _ _ _ _ _ _ _ _ (Sq hν ht live) (JL hν h1 hi) (JY hν h2 hd) (Kc hν h3 hrr)
    .cases e1
   | drawn fn t n tm ops BP idx D G k k' ds ds' kd rd rd' hD hk hd hrr=>
    simp only[Qy]at e1;split at e1
    .rename_i a b c h1 h2 h3;exact absurd rfl (Kk h1 _ _ _)
    .cases e1
 .cases h
theorem nK{Ao ids live:AP}{c c':BU}{Φ:Cy}(hl:(X.laid.all fun p=>Nat.blt p.1 N)=true)(_hN:N<=c.H.next)(_hids:(ids.all fun b=>Nat.blt b c.H.next)=true)(h:yn N Ao ids live c=some c')(hr:BA X N c' Φ):BA X N c Φ:=XY (AAT _) hl h hr
end
structure Stop where
 fn:FuncId
 depth:Nat
 len:Nat
 N:Nat
 Yy:AP
 live:AP
def tH:List Cs->Bool
 | .inLoop _::_=>true
 | .code (.loop _)::_=>true
 | _=>false
def Stop.here(S:Stop)(c:BU):Bool:=
 match c with
 | ⟨⟨fn,_,_,todo,_,r,_,_⟩,cs,_⟩=> !r&&tH todo&&Nat.beq fn S.fn&&Nat.beq cs.length S.depth&&Nat.beq todo.length S.len
def rY(t:Tr Value):AL:=
 Tr.rec (motive:=fun _=>AL) [] (fun _ v _ l r=>l++((match v with | some x=>[x] | none=>[])++r)) t
def ao:AJ->AP
 | .cells cs _ _=>cs.flatMap (Am 4)
 | .loop q=>q.defers::(rY q.tmps).flatMap (Am 4)
 | .deferred (some l)=>l.flatMap fun d=>d.args.toList.flatMap (Am 4)
 | .map es _=>es.flatMap fun e=>Am 4 e.key++Am 4 e.val
 | _=>[]
def fv:Cs->AP
 | .inRangeFunc l=>[l]
 | .endRangeFunc l=>[l]
 | _=>[]
def ql(d:Deferred):AP:=(match d.target with
 | .collected b=>[b]
 | .fn _ ys=>ys.toList.flatMap (Am 4)
 | _=>[])++d.args.toList.flatMap (Am 4)
def vm(f:Ae):AP:=
 (match f.round with | some l=>[l] | none=>[])++f.defers.flatMap ql++f.todo.flatMap fv++(rY f.tmps).flatMap (Am 4)
def Ko(H:AA)(N:Nat):Nat->AP->AP->AP
 | 0,_,seen=>seen
 | f+1,todo,seen=>match todo with
  | []=>seen
  | b::r=>bif Nat.blt b N||seen.any (Nat.beq b)then Ko H N f r seen else
   match H.get b with
   | some o=>Ko H N f (r++ao o) (seen++[b])
   | none=>Ko H N f r seen
def Stop.ids(S:Stop)(c:BU):AP:=
 Ko c.H S.N 1000 ((S.live.flatMap fun i=>Am 4 (look c.fr.tmps i))++(match c.fr.round with | some l=>[l] | none=>[])++c.fr.defers.flatMap ql++c.fr.todo.flatMap fv++c.cs.flatMap vm++(S.Yy.flatMap fun b=>match c.H.get b with | some o=>ao o | none=>[])) []
def Stop.can(X:Ctx)(S:Stop)(c:BU):Option BU:=
 match Eb X c with
 | some c1=>bif Nat.ble S.N c1.H.next&&(S.ids c1).all (fun b=>Nat.blt b c1.H.next)then yn S.N (S.Yy++S.ids c1) (S.ids c1) S.live c1 else none
 | none=>none
def zH(X:Ctx)(pf:Pf)(f:FuncId)(ids:AP)(S:Stop)(Q:Bz)(R:Cy)(n:Nat):Cy:=
 Nat.rec (motive:=fun _=>Cy) (fun _=>False) (fun _ ih c=>match EV X f c with
  | some (v,H)=>Q v ((ids++Am 4 v).map H.get)
  | none=>bif S.here c then(match S.can X c with
   | some c2=>R c2
   | none=>False)
   else HC X pf c ih) n
def Aa(X:Ctx)(N:Nat)(f:FuncId)(Q:H5)(c:BU):Prop:=BA X N c fun c'=>∃v H,EV X f c'=some (v,H)/\Q v H
section
variable {X:Ctx}
theorem Xu.Td{N:Nat}{f:FuncId}{Q:H5}{c:BU}(h:Xu X f Q c):Aa X N f Q c:=Reach.Td h
theorem Aa.mono{N:Nat}{f:FuncId}{Q Q':H5}{c:BU}(h:Aa X N f Q c)(hi:∀v H,Q v H->Q' v H):Aa X N f Q' c:=
 BA.mono h fun _ ⟨v,H,a,b⟩=>⟨v,H,a,hi v H b⟩
theorem Xn{pf:Pf}(hpf:Hm X pf){f:FuncId}{ids:AP}{S:Stop}(hl:(X.laid.all fun p=>Nat.blt p.1 S.N)=true){Q:Bz}{R:Cy}{Q':H5}(hQ:∀v H,Q v ((ids++Am 4 v).map H.get)->Q' v H)(hR:∀c,R c->Aa X S.N f Q' c):∀(n:Nat)(c:BU),zH X pf f ids S Q R n c->Aa X S.N f Q' c:=by
 intro n;induction n with
 | zero=>intro c h;cases h
 | succ n ih=>
  intro c h;have h:(match EV X f c with
   | some (v,H)=>Q v ((ids++Am 4 v).map H.get)
   | none=>bif S.here c then(match S.can X c with
    | some c2=>R c2
    | none=>False)
    else HC X pf c (zH X pf f ids S Q R n)):=h
  split at h
  .rename_i v H e;exact BA.here ⟨v,H,e,hQ v H h⟩
  .cases hs:S.here c
   .simp only[hs,AAR]at h;exact BA.bind (Reach.Td (KQ hpf h)) fun c' hc=>ih c' hc
   .simp only[hs,AAO]at h;split at h
    .rename_i c2 hc;unfold Stop.can at hc;split at hc
     .rename_i c1 h1;cases hb:(Nat.ble S.N c1.H.next&&(S.ids c1).all (fun b=>Nat.blt b c1.H.next))
      .simp only[hb,AAR]at hc;cases hc
      .simp only[hb,AAO]at hc;simp only[AAQ]at hb;have hr:=nK (X:=X) hl (VC hb.1) hb.2 hc (hR c2 h);exact BA.bind (Reach.Td ((Rv.step h1).reach (Φ:=fun c'=>c'=c1) rfl)) fun c' e=>e ▸ hr
     .cases hc
    .cases h
def AZ(X:Ctx)(N:Nat)(D:Nat->Prop)(f:FuncId)(Q:H5)(c:BU):Prop:=
 ∀(base:Env)(W0:World),(∀b T,base.gN b=some T->b < N)->(∀b,D b->∃T,base.gN b=some T)->En X base W0->HR X->∀(cs0:List Frame)(Z:AW)(fr:Frame)(cs:List Frame)(W:World),JD X base W0 Z c fr cs W->
  ∃c' v H v2 H2,EV X f c'=some (v,H)/\Q v2 H2/\∃μ1 fr1 cs1 W1,Steps X.P (lone fr (cs++cs0) W) (lone fr1 (cs1++cs0) W1)/\JD X base W0 μ1 c' fr1 cs1 W1/\∀v',AF μ1 v v'->AH base W0 μ1 H W1->∃μ2,μ1.le μ2/\AH base W0 μ2 H2 W1/\AF μ2 v2 v'
theorem Aa.FG{N:Nat}{D:Nat->Prop}{f:FuncId}{Q:H5}{c:BU}(h:Aa X N f Q c):AZ X N D f Q c:=by
 intro base W0 hb _ hok hplan cs0 Z fr cs W hm;obtain⟨c',⟨v,H,h1,h2⟩,μ1,fr1,cs1,W1,s1,m1⟩:=h base W0 hb hok hplan cs0 Z fr cs W hm;exact⟨c',v,H,v,H,h1,h2,μ1,fr1,cs1,W1,s1,m1,fun _ g h=>⟨μ1,AW.le_refl _,h,g⟩⟩
theorem AZ.mono{N:Nat}{D:Nat->Prop}{f:FuncId}{Q Q':H5}{c:BU}(h:AZ X N D f Q c)(hi:∀v H,Q v H->Q' v H):AZ X N D f Q' c:=by
 intro base W0 hb hD hok hplan cs0 Z fr cs W hm;obtain⟨c',v,H,v2,H2,h1,h2,h3⟩:=h base W0 hb hD hok hplan cs0 Z fr cs W hm;exact⟨c',v,H,v2,H2,h1,hi v2 H2 h2,h3⟩
theorem AZ.sub{N:Nat}{D D':Nat->Prop}{f:FuncId}{Q:H5}{c:BU}(h:AZ X N D f Q c)(hs:∀b,D b->D' b):AZ X N D' f Q c:=
 fun base W0 hb hD=>h base W0 hb fun b hb'=>hD b (hs b hb')
end
def IY:AJ->AJ
 | .cells cs e _=> .cells cs e true
 | .vec k l _=> .vec k l true
 | .abs a _=> .abs a true
 | o=>o
theorem Ws{Z:AW}{T:BQ}{o:AJ}{o':Obj}(h:Cb Z T o o'):Cb Z T (IY o) o':=by
 cases h with
 | cells cs e ro c t lo hi he hc hr hf=>exact .cells T cs e true c t lo hi he hc hr (fun e=>by cases e)
 | loop l a R ht hd=>exact .loop T l a R ht hd
 | El=>exact .El T
 | deferred l l' h=>exact .deferred T l l' h
 | Cv s p hd=>exact .Cv T s p hd
 | map es es' clock h=>exact .map T es es' clock h
 | vec k l ro o h=>
  refine .vec T k l true o' ?_;cases h with
  | cells cs e ro c t lo hi he hc hr hf=>exact .cells T _ _ true c t lo hi he hc hr (fun e=>by cases e)
 | D7 k ro o he hr hk=>exact .D7 T k true o' he hr hk
 | abs a ro o=>exact .abs T a true o'
theorem SN{o:AJ}{T:BQ}:(IY o).void T <-> o.void T:=by
 cases o with
 | abs a ro=>cases a<;>exact ACI
 | _=>exact ACI
theorem I7{ρ:Ren}{o o1:AJ}(h:BF ρ o=some o1\/(o.ro=true/\BF ρ o=some (IY o1)))(T:BQ):o1.void T <-> o.void T:=by
 rcases h with h | ⟨_,h⟩
 .exact CK h T
 .exact SN.symm.trans (CK h T)
theorem T7{ρ:Ren}{o o1:AJ}(h:BF ρ o=some o1\/(o.ro=true/\BF ρ o=some (IY o1)))(h2:o.ro=false):o1.ro=false:=by
 rcases h with h | ⟨h,_⟩
 .rw[(Er h).1];exact h2
 .rw[h2]at h;cases h
theorem G4{ρ:Ren}{a:CR}{ro:Bool}{o1:AJ}(h:BF ρ (.abs a ro)=some o1):o1= .abs a ro/\a.ext=[]:=by
 simp only[BF]at h;cases hx:a.HY
 .simp[hx]at h
 .simp only[hx,AAO,AAN]at h;exact⟨h.symm,CR.Qu hx⟩
theorem V4{ρ:Ren}{a:CR}{ro:Bool}{o1:AJ}(h:BF ρ (.abs a ro)=some o1\/((AJ.abs a ro).ro=true/\BF ρ (.abs a ro)=some (IY o1))):(∃ro1,o1= .abs a ro1)/\a.ext=[]:=by
 rcases h with h | ⟨_,h⟩
 .obtain⟨rfl,hx⟩:=G4 h;exact⟨⟨ro,rfl⟩,hx⟩
 .obtain⟨h,hx⟩:=G4 h;cases o1<;>simp only[IY,reduceCtorEq]at h
  cases h
  exact⟨⟨_,rfl⟩,hx⟩
theorem Yz{ρ:Ren}{o o1:AJ}(h:BF ρ o=some o1\/(o.ro=true/\BF ρ o=some (IY o1))):o1.isAbs=o.isAbs:=by
 rcases h with h | ⟨_,h⟩
 .exact(Er h).2.1
 .have:=(Er h).2.1;rw[<-this];cases o1<;>rfl
open Classical in
theorem xX{X:Ctx}{base:Env}{W0:World}{Z:AW}{H:AA}{W:World}(hok:∀b W0,Dt X b W0->En X b W0)(hplan:HR X)(hW:Dt X base W0)(hH:AH base W0 Z H W)(hlaid:BX X Z){f:FuncId}{n:Nat}{code:Code}(he:entry X.P f=some (n,code)){Hc H':AA}{argsc args:AL}{args':BE}{ρ:Ren}{v:Value}(hn:argsc.length<=n)(hargs:DZ (EI ρ) argsc=some args)(ha:Af Z args args'.toList)(hlt:∀b i,ρ b=some i->b < Hc.next)(hdom:∀b i,ρ b=some i->∃T,Z i=some T)(hinj0:∀b1 b2 i,ρ b1=some i->ρ b2=some i->b1=b2)(hnext:H.next<=H'.next)(hlr:∀g,X.laid.any (fun p=>Nat.beq g p.1)=true->ρ g=some g)(hobj:∀b o,Hc.get b=some o->∃i o1,ρ b=some i/\H.get i=some o1/\(BF ρ o=some o1\/(o.ro=true/\BF ρ o=some (IY o1))))(k1:∀i,i < H.next->(∀b o,Hc.get b=some o->o.ro=false->ρ b≠some i)->H'.get i=H.get i)(k3:∀i,H'.next<=i->H'.get i=none)(hrun:AZ X Hc.next (fun b=>∃i,ρ b=some i) f (fun vc Hf=>o7 Hc H H' ρ v vc Hf) (Du f (CP 0 argsc .leaf) n code Hc)):
 Calls X.P f args' W fun e W'=>∃v' μ',e= .returned v'/\AH base W0 μ' H' W'/\AF μ' v v'/\Ah Z H μ' H':=by
 obtain⟨φ,q⟩:=hH.abs;have hex:∀b o,Hc.get b=some o->o.ro=false->∃i o1,ρ b=some i/\H.get i=some o1/\BF ρ o=some o1:=by
  intro b o hb hr;obtain⟨i,o1,g1,g2,g3⟩:=hobj b o hb;rcases g3 with g3 | ⟨g3,_⟩
  .exact⟨i,o1,g1,g2,g3⟩
  .rw[hr]at g3;cases g3
 have hiN:∀b i,ρ b=some i->i < H.next:=fun b i hb=>let ⟨_,hT⟩:=hdom b i hb;hH.L9 hT
 have hfree:∀b,Hc.next<=b->Hc.get b=none:=by
  intro b hb;cases hg:Hc.get b with
  | none=>rfl
  | some o=>obtain⟨i,_,h1,_⟩:=hobj b o hg;have:=hlt b i h1;omega
 let μc:AW:=fun b=>(ρ b).bind Z
 have hμc:∀b i T,ρ b=some i->Z i=some T->μc b=some T:=fun b i T h1 h2=>by show(ρ b).bind Z=_;rw[h1];exact h2
 have hμc':∀b T,μc b=some T->∃i,ρ b=some i/\Z i=some T:=by
  intro b T h;have h:(ρ b).bind Z=some T:=h;cases hb:ρ b with
  | none=>rw[hb]at h;cases h
  | some i=>rw[hb]at h;exact⟨i,rfl,h⟩
 have hbw:∀b i T,ρ b=some i->Z i=some T->μc b=some T:=hμc
 let Own:Nat->Prop:=fun i=>(∃b o j T,Hc.get b=some o/\o.ro=false/\ρ b=some j/\Z j=some T/\¬o.void T/\i=T.c)\/(∃b a j,Hc.get b=some (.abs a false)/\ρ b=some j/\φ j i)
 let Ec:Env:={ base with K:=fun i=>i < W.heap.size/\¬Own i,gN:=μc }
 have hownK:∀i,Own i->¬base.K i:=by
  rintro i (⟨b,o,j,T,h1,h2,h3,h4,hv,rfl⟩ | ⟨b,a,j,h1,h2,h3⟩) hk
  .obtain⟨i2,o1,g1,g2,g3⟩:=hex b o h1 h2;rw[h3]at g1;cases g1
   exact hH.own _ o1 g2 (by rw[(Er g3).1];exact h2) T h4 (fun hw=>hv ((CK g3 T).1 hw)) hk
  .obtain⟨i2,o1,g1,g2,g3⟩:=hex b _ h1 rfl;rw[h2]at g1;cases g1
   obtain⟨rfl,_⟩:=G4 g3;obtain⟨T,hT⟩:=hdom _ _ h2;exact(q.rep _ a false T g2 hT).2 rfl i h3 hk
 have hHc:AH Ec W μc Hc W:=by
  refine⟨?_,?_,?_,?_,?_,fun i hi=>hi.1,fun _ _=>rfl,rfl,rfl,?_,AW.le_refl _,AAT _⟩
  .intro b o hb T hT;obtain⟨i,o1,g1,g2,g3⟩:=hobj b o hb;obtain⟨i2,e1,e2⟩:=hμc' b T hT;rw[g1]at e1;cases e1
   obtain⟨o',r1,r2⟩:=hH.obj _ o1 g2 T e2;rcases g3 with g3 | ⟨_,g3⟩
   .exact⟨o',r1,QS hbw g3 r2⟩
   .exact⟨o',r1,QS hbw g3 (Ws r2)⟩
  .intro b o hb hr T hT hv hk;obtain⟨i2,e1,e2⟩:=hμc' b T hT;exact hk.2 (.inl ⟨b,o,i2,T,hb,hr,e1,e2,hv,rfl⟩)
  .intro b1 b2 o1 o2 h1 h2 T1 T2 m1 m2 v1 v2 hc hrr;obtain⟨i1,e1,e2⟩:=hμc' b1 T1 m1;obtain⟨i2,e3,e4⟩:=hμc' b2 T2 m2;obtain⟨j1,p1,g1,g2,w1⟩:=hobj b1 o1 h1;obtain⟨j2,p2,g3,g4,w2⟩:=hobj b2 o2 h2;rw[e1]at g1;cases g1
   rw[e3]at g3;cases g3
   have:=hH.inj _ _ _ _ g2 g4 T1 T2 e2 e4 (fun hw=>v1 ((I7 w1 T1).1 hw)) (fun hw=>v2 ((I7 w2 T2).1 hw)) hc (hrr.imp (T7 w1) (T7 w2));subst this;exact hinj0 b1 b2 _ e1 e3
  .intro b hb;refine⟨hfree b hb,?_⟩;cases hm:μc b with
   | none=>rfl
   | some T=>obtain⟨i,e1,_⟩:=hμc' b T hm;have:=hlt _ _ e1;omega
  .intro b T hT;obtain⟨i,_,e2⟩:=hμc' b T hT;exact hH.bound i T e2
  .refine⟨fun b=>match ρ b with | some j=>φ j | none=>fun _=>False,?_,?_⟩
   .intro b a ro T hb hT;obtain⟨i,o1,g1,g2,g3⟩:=hobj b _ hb;obtain⟨i2,e1,e2⟩:=hμc' b T hT;rw[g1]at e1;cases e1
    obtain⟨⟨ro1,ho1⟩,hext⟩:=V4 g3;subst ho1;obtain⟨r1,_⟩:=q.rep _ a ro1 T g2 e2;simp only[g1];refine⟨r1.closed _ hext,fun hro i hi hk=>hk.2 (.inr ⟨b,a,_,by rw[<-hro];exact hb,g1,hi⟩)⟩
   .intro b a ro T hb hT b2 o2 T2 hb2 hT2 hne;obtain⟨i,o1,g1,g2,g3⟩:=hobj b _ hb;obtain⟨i2,e1,e2⟩:=hμc' b T hT;rw[g1]at e1;cases e1
    obtain⟨⟨ro1,ho1⟩,hext⟩:=V4 g3;subst ho1;obtain⟨j,p1,g4,g5,g6⟩:=hobj b2 _ hb2;obtain⟨j2,e3,e4⟩:=hμc' b2 T2 hT2;rw[g4]at e3;cases e3
    have hne2:j≠i:=by
     rintro rfl;exact hne (hinj0 b2 b _ g4 g1)
    simp only[g1,g4];obtain⟨r1,r2⟩:=q.C3 _ a ro1 T g2 e2 _ p1 T2 g5 e4 hne2;exact⟨fun hv2=>r1 (fun hw=>hv2 ((I7 g6 T2).1 hw)),fun ea=>r2 (by rw[Yz g6];exact ea)⟩
 have hlc:BX X μc:=by
  intro g hg;obtain⟨T,h1,h2⟩:=hlaid g hg;exact⟨T,hμc g g T (hlr g hg) h1,h2⟩
 have hWc:Dt X Ec W:=by
  refine⟨hW.1,fun p hp=>?_⟩;obtain⟨h1,a,t,fz,h3,h4⟩:=hW.2 p hp;exact⟨⟨hH.size _ h1,fun ho=>hownK _ ho h1⟩,a,t,fz,by rw[hH.below _ h1];exact h3,h4⟩
 have hac:Af μc argsc args'.toList:=GR (PD hbw 6) _ _ _ hargs ha;intro cs;obtain⟨c',vc0,Hf0,vc,Hf,hd,⟨ρ',hinj,hold,hnew,k2,hv⟩,μ0,fr1,cs1,W1,s1,m1,hshut⟩:=hrun Ec W (fun b T hT=>by obtain⟨i,h1,_⟩:=hμc' b T hT;exact hlt _ _ h1) (fun b ⟨i,hi⟩=>by obtain⟨T,hT⟩:=hdom b i hi;exact⟨T,hμc b i T hi hT⟩) (hok Ec W hWc) hplan cs μc _ [] W (LA hHc hlc he hac hn);obtain⟨rfl,hf,v',h1,h2o,h3o⟩:=KA m1 hd;obtain⟨μ1,_,h2,h3⟩:=hshut _ h3o h2o;have hs':Steps X.P (lone (Frame.enter X.P f args' .normal) cs W) (lone fr1 cs W1):=by simpa using s1
 refine⟨.returned v',W1,fr1,?_,hs',hf,h1⟩;have hle1:μc.le μ1:=h2.le;let μ':AW:=fun i=>if i < H.next then Z i else if hx:∃b,ρ' b=some i/\Hc.next<=b then μ1 hx.choose else none
 have hμold:∀i,i < H.next->μ' i=Z i:=fun i hi=>by show(if _ then _ else _)=_;rw[AAZ hi]
 have hμnew:∀b i,ρ' b=some i->Hc.next<=b->μ' i=μ1 b:=by
  intro b i hb hge;have hi:=hnew b i hb hge;show(if i < H.next then Z i else if hx:∃b,ρ' b=some i/\Hc.next<=b then μ1 hx.choose else none)=_;rw[AAW (by omega)];have hx:∃b,ρ' b=some i/\Hc.next<=b:=⟨b,hb,hge⟩
  rw[dif_pos hx,hinj _ b i hx.choose_spec.1 hb]
 have hμno:∀i,H.next<=i->(¬∃b,ρ' b=some i/\Hc.next<=b)->μ' i=none:=by
  intro i hi hx;show(if i < H.next then Z i else if hx:∃b,ρ' b=some i/\Hc.next<=b then μ1 hx.choose else none)=_;rw[AAW (by omega),dif_neg hx]
 have hle:Z.le μ':=fun i T hT=>by rw[hμold i (hH.L9 hT)];exact hT
 have hfw:∀b i T,ρ' b=some i->μ1 b=some T->μ' i=some T:=by
  intro b i T hb hT;rcases AAt b Hc.next with hlt' | hge
  .rw[hold b hlt']at hb;obtain⟨T0,hT0⟩:=hdom b i hb;have:=hle1 b T0 (hμc b i T0 hb hT0);rw[hT]at this;cases this
   exact hle i T hT0
  .rw[hμnew b i hb hge];exact hT
 have hsrc:∀i o T,H'.get i=some o->μ' i=some T->(∃b o0,ρ' b=some i/\Hf.get b=some o0/\BF ρ' o0=some o/\o0.ro=false/\μ1 b=some T)\/
  (i < H.next/\H.get i=some o/\Z i=some T/\∀b o,Hc.get b=some o->o.ro=false->ρ b≠some i):=by
  intro i o T hi hT
  by_cases hc:H.next<=i\/∃b o0,Hc.get b=some o0/\o0.ro=false/\ρ b=some i
  .obtain⟨b,o0,g1,g2,g3,g4⟩:=k2 i o hi hc;refine .inl ⟨b,o0,g1,g2,g3,g4,?_⟩;rcases AAt b Hc.next with hlt' | hge
   .have g1':=g1;rw[hold b hlt']at g1';have hiN':=hiN b i g1';rw[hμold i hiN']at hT;exact hle1 b T (hμc b i T g1' hT)
   .rw[<-hμnew b i g1 hge];exact hT
  .have hi1:i < H.next:=by
    rcases AAt i H.next with hh | hh
    .exact hh
    .exact absurd (.inl hh) hc
   have hnb:∀b o,Hc.get b=some o->o.ro=false->ρ b≠some i:=fun b o g1 g2 g3=>hc (.inr ⟨b,o,g1,g2,g3⟩)
   rw[k1 i hi1 hnb]at hi;rw[hμold i hi1]at hT;exact .inr ⟨hi1,hi,hT,hnb⟩
 have hkept:∀i o T,i < H.next->H.get i=some o->Z i=some T->¬o.void T->(∀b o,Hc.get b=some o->o.ro=false->ρ b≠some i)->Ec.K T.c:=by
  intro i o T hi ho hT hvo hnb;refine⟨hH.bound i T hT,?_⟩;rintro(⟨b,o2,j,T2,g1,g2,g3,g4,gv,g5⟩ | ⟨b,a,j,g1,g2,g3⟩)
  .obtain⟨j2,p,e1,e2,e3⟩:=hobj b o2 g1;rw[g3]at e1;cases e1
   have:=hH.inj i j _ _ ho e2 T T2 hT g4 hvo (fun hw=>gv ((I7 e3 T2).1 hw)) g5 (.inr (T7 e3 g2));subst this;exact hnb b o2 g1 g2 g3
  .obtain⟨j2,p,e1,e2,e3⟩:=hex b _ g1 rfl;rw[g2]at e1;cases e1
   obtain⟨rfl,_⟩:=G4 e3;obtain⟨T2,hT2⟩:=hdom _ _ g2;have hne:i≠j:=by rintro rfl;exact hnb b _ g1 rfl g2
   exact(q.C3 j a false T2 e2 hT2 i o T ho hT hne).1 hvo g3
 have hnotK:∀b o T,Hf.get b=some o->o.ro=false->μ1 b=some T->¬o.void T->¬base.K T.c:=by
  intro b o T g1 g2 g3 gv hk;have:=h2.own b o g1 g2 T g3 gv;refine this ⟨hH.size _ hk,fun ho=>hownK _ ho hk⟩
 obtain⟨φ1,q1⟩:=h2.abs;have hphiK:∀i a ro T,H.get i=some (.abs a ro)->Z i=some T->(∀b o,Hc.get b=some o->o.ro=false->ρ b≠some i)->∀j,φ i j->Ec.K j:=by
  intro i a ro T ho hT hnb j hj;have hr:=(q.rep i a ro T ho hT).1;refine⟨(Ga.JO _ _ _ _ hr).2 j hj,?_⟩;rintro(⟨b,o2,j2,T2,g1,g2,g3,g4,gv,rfl⟩ | ⟨b,a2,j2,g1,g2,g3⟩)
  .obtain⟨j3,p,e1,e2,e3⟩:=hobj b o2 g1;rw[g3]at e1;cases e1
   have hne:j2≠i:=by rintro rfl;exact hnb b o2 g1 g2 g3
   exact(q.C3 i a ro T ho hT j2 p T2 e2 g4 hne).1 (fun hw=>gv ((I7 e3 T2).1 hw)) hj
  .obtain⟨j3,p,e1,e2,e3⟩:=hex b _ g1 rfl;rw[g2]at e1;cases e1
   obtain⟨rfl,_⟩:=G4 e3;obtain⟨T2,hT2⟩:=hdom _ _ g2;have hne:j2≠i:=by rintro rfl;exact hnb b _ g1 rfl g2
   exact(q.C3 i a ro T ho hT j2 _ T2 e2 hT2 hne).2 rfl j hj g3
 refine⟨v',μ',rfl,⟨?_,?_,?_,?_,?_,?_,?_,?_,?_,?_,?_,?_⟩,PQ hfw 6 _ _ _ hv h3,hle,hnext,?_⟩
 .intro i o hi T hT;rcases hsrc i o T hi hT with⟨b,o0,g1,g2,g3,g4,g5⟩ | ⟨g1,g2,g3,g4⟩
  .obtain⟨o',r1,r2⟩:=h2.obj b o0 g2 T g5;exact⟨o',r1,Vg hfw g3 r2⟩
  .obtain⟨o',r1,r2⟩:=Cb.Ao (W':=W1) (hH.obj i o g2 T g3) h2.grow (fun hv=>h2.below _ (hkept i o T g1 g2 g3 hv g4));exact⟨o',r1,r2.mono hle⟩
 .intro i o hi hr T hT hv;rcases hsrc i o T hi hT with⟨b,o0,g1,g2,g3,g4,g5⟩ | ⟨g1,g2,g3,g4⟩
  .exact hnotK b o0 T g2 g4 g5 (fun hw=>hv ((CK g3 T).2 hw))
  .exact hH.own i o g2 hr T g3 hv
 .intro i1 i2 o1 o2 e1 e2 T1 T2 m1 m2 v1 v2 hc hrr;rcases hsrc i1 o1 T1 e1 m1 with⟨b1,p1,g1,g2,g3,g4,g5⟩ | ⟨g1,g2,g3,g4⟩<;>rcases hsrc i2 o2 T2 e2 m2 with⟨b2,p2,f1,f2,f3,f4,f5⟩ | ⟨f1,f2,f3,f4⟩
  .have:=h2.inj b1 b2 _ _ g2 f2 T1 T2 g5 f5 (fun hw=>v1 ((CK g3 T1).2 hw)) (fun hw=>v2 ((CK f3 T2).2 hw)) hc (.inl g4);subst this;rw[g1]at f1;cases f1;rfl
  .exact absurd (hc ▸ hkept i2 o2 T2 f1 f2 f3 v2 f4) (h2.own b1 p1 g2 g4 T1 g5 (fun hw=>v1 ((CK g3 T1).2 hw)))
  .exact absurd (hc ▸ hkept i1 o1 T1 g1 g2 g3 v1 g4) (h2.own b2 p2 f2 f4 T2 f5 (fun hw=>v2 ((CK f3 T2).2 hw)))
  .exact hH.inj i1 i2 _ _ g2 f2 T1 T2 g3 f3 v1 v2 hc hrr
 .intro i hi;refine⟨k3 i hi,hμno i (by omega) ?_⟩;rintro⟨b,g1,g2⟩;have:=(hnew b i g1 g2).2;omega
 .intro i T hT;rcases AAt i H.next with hh | hh
  .rw[hμold i hh]at hT;have:=hH.bound i T hT;have:=h2.grow;omega
  .by_cases hx:∃b,ρ' b=some i/\Hc.next<=b
   .obtain⟨b,g1,g2⟩:=hx;rw[hμnew b i g1 g2]at hT;exact h2.bound b T hT
   .rw[hμno i hh hx]at hT;cases hT
 .intro i hi;have:=hH.size i hi;have:=h2.grow;omega
 .intro i hi;rw[h2.below i ⟨hH.size i hi,fun ho=>hownK i ho hi⟩];exact hH.below i hi
 .rw[h2.out];exact hH.out
 .rw[h2.os];exact hH.os
 .let C:Nat->Nat->Prop:=fun b i=>ρ' b=some i/\(H.next<=i\/∃o1,Hc.get b=some o1/\o1.ro=false)
  let φ':Nat->Nat->Prop:=fun i j=>(∃b,C b i/\φ1 b j)\/((¬∃b,C b i)/\φ i j)
  have hCin:∀b i,C b i->φ' i=φ1 b:=by
   intro b i hb
   funext j
   refine propext ⟨?_,fun hj=> .inl ⟨b,hb,hj⟩⟩;rintro(⟨b2,g1,g2⟩ | ⟨g1,_⟩)
   .rw[hinj b b2 i hb.1 g1.1];exact g2
   .exact absurd ⟨b,hb⟩ g1
  have hCout:∀i,i < H.next->(∀b o,Hc.get b=some o->o.ro=false->ρ b≠some i)->φ' i=φ i:=by
   intro i hi hnb;have hno:¬∃b,C b i:=by
    rintro⟨b,g1,g2 | ⟨o1,g2,g3⟩⟩
    .omega
    .obtain⟨i2,_,e1,_⟩:=hobj b o1 g2;rw[hold b (hlt _ _ e1)]at g1;exact hnb b o1 g2 g3 g1
   funext j
   refine propext ⟨?_,fun hj=> .inr ⟨hno,hj⟩⟩;rintro(⟨b2,g1,g2⟩ | ⟨_,g2⟩)
   .exact absurd ⟨b2,g1⟩ hno
   .exact g2
  have hsrc2:∀i o T,H'.get i=some o->μ' i=some T->(∃b o0,C b i/\Hf.get b=some o0/\BF ρ' o0=some o/\o0.ro=false/\μ1 b=some T)\/
   (i < H.next/\H.get i=some o/\Z i=some T/\∀b o,Hc.get b=some o->o.ro=false->ρ b≠some i):=by
   intro i o T hi hT;rcases hsrc i o T hi hT with⟨b,o0,g1,g2,g3,g4,g5⟩ | h
   .by_cases hc:H.next<=i\/∃b o0,Hc.get b=some o0/\o0.ro=false/\ρ b=some i
    .refine .inl ⟨b,o0,⟨g1,?_⟩,g2,g3,g4,g5⟩;rcases hc with hc | ⟨b2,o2,e1,e2,e3⟩
     .exact .inl hc
     .have:b=b2:=hinj b b2 i g1 (by rw[hold b2 (hlt _ _ e3)];exact e3);subst this;exact .inr ⟨o2,e1,e2⟩
    .have hi1:i < H.next:=by
      rcases AAt i H.next with hh | hh
      .exact hh
      .exact absurd (.inl hh) hc
     have hnb:∀b o,Hc.get b=some o->o.ro=false->ρ b≠some i:=fun b o g1 g2 g3=>hc (.inr ⟨b,o,g1,g2,g3⟩)
     rw[k1 i hi1 hnb]at hi;rw[hμold i hi1]at hT;exact .inr ⟨hi1,hi,hT,hnb⟩
   .exact .inr h
  refine⟨φ',?_,?_⟩
  .intro i a ro T hi hT;rcases hsrc2 i _ T hi hT with⟨b,o0,g1,g2,g3,g4,g5⟩ | ⟨g1,g2,g3,g4⟩
   .obtain⟨e0,hext⟩:=(Er g3).2.2 a ro rfl;subst e0;obtain⟨r1,r2⟩:=q1.rep b a ro T g2 g5;rw[hCin b i g1];exact⟨r1.closed _ hext,fun hro j hj hk=>r2 hro j hj ⟨hH.size j hk,fun ho=>hownK j ho hk⟩⟩
   .obtain⟨r1,r2⟩:=q.rep i a ro T g2 g3;rw[hCout i g1 g4];exact⟨(Ga.loc _ _ _ _ _ h2.grow r1 (fun j hj=>h2.below j (hphiK i a ro T g2 g3 g4 j hj))).mono hle,r2⟩
  .intro i a ro T hi hT i2 o2 T2 hi2 hT2 hne;rcases hsrc2 i _ T hi hT with⟨b,o0,g1,g2,g3,g4,g5⟩ | ⟨g1,g2,g3,g4⟩<;>rcases hsrc2 i2 _ T2 hi2 hT2 with⟨b2,p0,f1,f2,f3,f4,f5⟩ | ⟨f1,f2,f3,f4⟩
   .obtain⟨e0,hext⟩:=(Er g3).2.2 a ro rfl;subst e0;rw[hCin b i g1,hCin b2 i2 f1];have hbn:b2≠b:=by
     rintro rfl;have:=g1.1;rw[f1.1]at this;cases this;exact hne rfl
    obtain⟨r1,r2⟩:=q1.C3 b a ro T g2 g5 b2 p0 T2 f2 f5 hbn;exact⟨fun hv2=>r1 (fun hw=>hv2 ((CK f3 T2).2 hw)),fun ea=>r2 (by rw[<-(Er f3).2.1];exact ea)⟩
   .obtain⟨e0,hext⟩:=(Er g3).2.2 a ro rfl;subst e0;rw[hCin b i g1,hCout i2 f1 f4];have OO:=(q1.rep b a ro T g2 g5).2 g4;refine⟨fun hv2 hc=>OO _ hc (hkept i2 o2 T2 f1 f2 f3 hv2 f4),fun ea j hj hj2=>?_⟩;obtain⟨a2,ro2,rfl⟩:=Ft ea;exact OO _ hj (hphiK i2 a2 ro2 T2 f2 f3 f4 j hj2)
   .rw[hCout i g1 g4,hCin b2 i2 f1];refine⟨fun hv2 hc=>h2.own b2 p0 f2 f4 T2 f5 (fun hw=>hv2 ((CK f3 T2).2 hw)) (hphiK i a ro T g2 g3 g4 _ hc),fun ea j hj hj2=>?_⟩;have ea0:p0.isAbs=true:=by rw[<-(Er f3).2.1];exact ea
    obtain⟨a2,ro2,rfl⟩:=Ft ea0;exact(q1.rep b2 a2 ro2 T2 f2 f5).2 f4 j hj2 (hphiK i a ro T g2 g3 g4 _ hj)
   .rw[hCout i g1 g4,hCout i2 f1 f4];exact q.C3 i a ro T g2 g3 i2 o2 T2 f2 f3 hne
 .exact AW.le_trans hH.le hle
 .have:=hH.grow;have:=h2.grow;omega
 .intro i hi hm;refine⟨by rw[hμold i hi];exact hm,k1 i hi ?_⟩;intro b o g1 g2 g3;obtain⟨T,hT⟩:=hdom b i g3;rw[hm]at hT;cases hT
def VS(P:Program)(laid:DD):Ctx:=⟨P,laid,fun _=>none,MN P⟩
def CH(P:Program)(laid:DD)(f:FuncId)(F:DL):Prop:=
 (∃n c,entry P f=some (n,c))/\∀base W0 Z H W (args:AL) (args':BE) v H',Dt (VS P laid) base W0->AH base W0 Z H W->BX (VS P laid) Z->Af Z args args'.toList->F args H=some (v,H')->
  Calls P f args' W fun e W'=>∃v' μ',e= .returned v'/\AH base W0 μ' H' W'/\AF μ' v v'/\Ah Z H μ' H'
def Od:List (FuncId × DL)->FuncId->Option DL
 | [],_=>none
 | p::r,f=>bif Nat.beq p.1 f then some p.2 else Od r f
def BY(P:Program)(laid:DD)(fs:List (FuncId × DL)):Ctx:=⟨P,laid,Od fs,MN P⟩
theorem cu:∀{fs:List (FuncId × DL)}{f:FuncId}{F:DL},Od fs f=some F->(f,F)∈fs:=by
 intro fs;induction fs with
 | nil=>intro f F h;cases h
 | cons p r ih=>
  intro f F h;unfold Od at h;cases hb:Nat.beq p.1 f
  .rw[hb]at h;exact ABT _ (ih h)
  .rw[hb]at h;cases h
   have:=AAP hb;rw[<-this];simp
def CQ(P:Program)(laid:DD)(fs:List (FuncId × DL)):Prop:=∀p∈fs,CH P laid p.1 p.2
theorem CQ.nil(P:Program)(laid:DD):CQ P laid []:=fun _ h=>by cases h
theorem CQ.cons{P:Program}{laid:DD}{f:FuncId}{F:DL}{fs:List (FuncId × DL)}(h:CH P laid f F)(h':CQ P laid fs):CQ P laid ((f,F)::fs):=by
 intro p hp;rcases List.mem_cons.1 hp with rfl | hp
 .exact h
 .exact h' p hp
theorem CQ.Hp{P:Program}{laid:DD}{fs:List (FuncId × DL)}(h:CQ P laid fs)(base:Env)(W0:World)(hW:Dt (BY P laid fs) base W0):En (BY P laid fs) base W0:=by
 refine⟨hW,?_⟩;intro f F hf;have hp:=h _ (cu hf);exact⟨hp.1,fun Z H W args args' v H' hH hl ha hF=>hp.2 base W0 Z H W args args' v H' hW hH hl ha hF⟩
theorem K6{P:Program}{laid:DD}{k:M6}(h:Il P laid k):CH P laid k.f (Nx k):=by
 refine⟨h.1,?_⟩;intro base W0 Z H W args args' v H' hW hH hl ha hF;unfold Nx at hF;cases hb:KM (JJ 8) args k.args
 .rw[hb]at hF;cases hF
 .rw[hb]at hF;cases hF
  obtain rfl:=JU (Q3 8) _ _ hb;exact h.2 base W0 Z H W args' hW hH ha
inductive AV where
 | flat (v:Value)
 | row (k:EK) (l:List (EK.C k))
def argsAt:Nat->List AV->AL
 | _,[]=>[]
 | n,.flat v::r=>v::argsAt n r
 | n,.row _ l::r=> .slice (some ⟨n,0,some 0⟩) l.length AT::argsAt (n+1) r
inductive RV where
 | one (a:AV)
 | many (l:List AV)
inductive RT where
 | fail
 | ret (r:RV)
 | test (c:Bool) (a b:RT)
def RT.run:RT->Option RV
 | .fail=>none
 | .ret r=>some r
 | .test c a b=>bif c then a.run else b.run
def RT.Xm:RT->(RV->Prop)->Prop
 | .fail,_=>False
 | .ret r,K=>K r
 | .test c a b,K=>bif c then a.Xm K else b.Xm K
theorem RT.IN{K:RV->Prop}:∀{t:RT},t.Xm K->∃r,t.run=some r/\K r
 | .fail,h=>by cases h
 | .ret r,h=>⟨r,rfl,h⟩
 | .test c a b,h=>by
  cases c
  .exact RT.IN (t:=b) h
  .exact RT.IN (t:=a) h
def RV.list:RV->List AV
 | .one a=>[a]
 | .many l=>l
def RV.val(n:Nat):RV->Value
 | .one a=>match argsAt n [a]with
  | [v]=>v
  | _=>Bo
 | .many l=> .tuple ⟨argsAt n l⟩
abbrev Row:=Σ k:EK,List (EK.C k)
def nodupB:AP->Bool
 | []=>true
 | b::r=> !(r.any (Nat.beq b))&&nodupB r
theorem H7{ρ:Ren}:∀(n:Nat)(v:Value),C4 n v=true->CA ρ n v=some v:=by
 intro n;induction n with
 | zero=>intro v h;cases h
 | succ n ih=>
  have hl:∀l:AL,l.all (C4 n)=true->DZ (CA ρ n) l=some l:=by
   intro l;induction l with
   | nil=>intro _;rfl
   | cons a l ihl=>
    intro h;simp only[ABN,AAQ]at h;simp only[DZ,ih a h.1,ihl h.2]
  intro v h;cases v with
  | iface t v=>simp only[C4]at h;simp only[CA,ih v h,AA8]
  | agg cs=>simp only[C4]at h;simp only[CA,hl _ h,AA8]
  | tuple cs=>simp only[C4]at h;simp only[CA,hl _ h,AA8]
  | pointer a=>cases a with
   | none=>rfl
   | some a=>simp[C4]at h
  | slice a l c=>cases a with
   | none=>rfl
   | some a=>simp[C4]at h
  | map a=>cases a with
   | none=>rfl
   | some a=>simp[C4]at h
  | _=>first | rfl | (simp[C4]at h)
def posOf(b:Nat):AP->Option Nat
 | []=>none
 | a::r=>if b=a then some 0 else(posOf b r).map (·+1)
theorem MX{b:Nat}:∀{l:AP}{j:Nat},posOf b l=some j->l[j]? = some b
 | [],_,h=>by cases h
 | a::r,j,h=>by
  unfold posOf at h;split at h
  .rename_i e;cases h;rw[e];rfl
  .obtain⟨q,h1,rfl⟩:=Option.map_eq_some_iff.1 h;rw[ABK];exact MX h1
theorem KG{b:Nat}:∀{l:AP}{j:Nat},l.Nodup->l[j]? = some b->posOf b l=some j
 | [],_,_,h=>by cases h
 | a::r,0,_,h=>by
  simp only[ABg,AAN]at h;unfold posOf;rw[AAZ h.symm]
 | a::r,j+1,hn,h=>by
  simp only[ABK]at h;have hn:=List.nodup_cons.1 hn;have hne:b≠a:=by rintro rfl;exact hn.1 (AA1 h)
  unfold posOf;rw[AAW hne,KG hn.2 h];rfl
theorem bh{l:AP}(hn:l.Nodup){i j b:Nat}(h1:l[i]? = some b)(h2:l[j]? = some b):i=j:=by
 have e1:=KG hn h1;rw[KG hn h2]at e1;cases e1;rfl
structure Vp where
 v:Value
 Yy:J9
 news:Ay
inductive GT where
 | fail
 | ret (x:Vp)
 | test (c:Bool) (a b:GT)
 | ask (p:Prop) (a:GT)
open Classical in
def GT.run:GT->Option Vp
 | .fail=>none
 | .ret x=>some x
 | .test c a b=>bif c then a.run else b.run
 | .ask p a=>if p then a.run else none
def GT.Xm:GT->(Vp->Prop)->Prop
 | .fail,_=>False
 | .ret x,K=>K x
 | .test c a b,K=>bif c then a.Xm K else b.Xm K
 | .ask p a,K=>p/\a.Xm K
theorem GT.IN{K:Vp->Prop}:∀{t:GT},t.Xm K->∃x,t.run=some x/\K x
 | .fail,h=>by cases h
 | .ret x,h=>⟨x,rfl,h⟩
 | .test c a b,h=>by
  cases c
  .exact GT.IN (t:=b) h
  .exact GT.IN (t:=a) h
 | .ask p a,h=>by
  obtain⟨x,h1,h2⟩:=GT.IN (t:=a) h.2;exact⟨x,by simp only[GT.run];rw[AAZ h.1];exact h1,h2⟩
def NO(laid:DD)(N:Nat)(b:Nat):Option Nat:=bif Nat.blt b N&&laid.any (fun p=>Nat.beq b p.1)then some b else none
def Gf(laid:DD)(N:Nat)(bs:AP):Ren:=fun b=>bif Nat.blt b N then NO laid N b else bs[b - N]?
def Nj(laid:DD)(N:Nat)(bs:AP):Ren:=fun b=>bif Nat.blt b N then NO laid N b else WX b bs N
def Vl(ρ:Ren)(H:AA):AP->Option (Ay)
 | []=>some []
 | b::r=>match H.get b with
  | some o=>match BF ρ o,Vl ρ H r with
   | some o1,some l=>some (o1::l)
   | _,_=>none
  | none=>none
def US:AJ->AP
 | .cells cs _ _=>cs.flatMap (Am 4)
 | .vec [.tok] l _=>List.flatMap (Am 4) l
 | .vec [.str,.tok] l _=>List.flatMap (Am 4) (Ac [.str,.tok] l)
 | _=>[]
def DE(H:AA)(N:Nat):Nat->AP->AP->AP
 | 0,_,seen=>seen
 | f+1,todo,seen=>match todo with
  | []=>seen
  | b::r=>bif Nat.blt b N||seen.any (Nat.beq b)then DE H N f r seen else
   match H.get b with
   | some o=>DE H N f (US o++r) (seen++[b])
   | none=>DE H N f r seen
def GH(muts:List Bool)(j:Nat):Bool:=muts.getD j false
def Eg(muts:List Bool):Nat->Ay->Ay
 | _,[]=>[]
 | j,o::r=>(bif GH muts j then o else IY o)::Eg muts (j+1) r
def DT(H:AA):Ay->AA
 | []=>H
 | o::r=>DT (H.alloc o) r
def I0(muts:List Bool)(H:AA):Nat->AP->Bool
 | _,[]=>true
 | j,b::r=>(bif GH muts j then(match H.get b with | some o=> !o.ro | none=>false)else true)&&I0 muts H (j+1) r
def OQ(ρ:Ren)(muts:List Bool)(H:AA):Nat->AP->J9->Option AA
 | _,[],_=>some H
 | j,b::r,os=>bif GH muts j then
  match os with
  | some o::os=>match BF ρ o with
   | some o1=>bif o1.ro then none else OQ ρ muts (H.put b o1) (j+1) r os
   | none=>none
  | none::os=>OQ ρ muts (H.del b) (j+1) r os
  | []=>OQ ρ muts (H.del b) (j+1) r []
  else OQ ρ muts H (j+1) r os.tail
def od(ρ:Ren)(H:AA):Ay->Option AA
 | []=>some H
 | o::r=>match BF ρ o with
  | some o1=>bif o1.ro then none else od ρ (H.alloc o1) r
  | none=>none
def HW(laid:DD)(N:Nat)(bs:AP)(nx k:Nat):Ren:=Gf laid N (bs++(List.range k).map (nx+·))
def To(laid:DD)(N:Nat)(muts:List Bool)(bs:AP)(H:AA)(x:Vp):Option (Value × AA):=
 match EI (HW laid N bs H.next x.news.length) x.v,OQ (HW laid N bs H.next x.news.length) muts H 0 bs x.Yy with
 | some v,some H1=>match od (HW laid N bs H.next x.news.length) H1 x.news with
  | some H2=>some (v,H2)
  | none=>none
 | _,_=>none
def Ab(laid:DD)(N:Nat)(muts:List Bool)(G:AL->Ay->GT):DL:=fun args H=>
 match DZ (EI (Nj laid N (DE H N 200 (args.flatMap (Am 4)) []))) args,Vl (Nj laid N (DE H N 200 (args.flatMap (Am 4)) [])) H (DE H N 200 (args.flatMap (Am 4)) [])with
 | some argsc,some objs=>bif I0 muts H 0 (DE H N 200 (args.flatMap (Am 4)) [])then
  match (G argsc objs).run with
  | some x=>To laid N muts (DE H N 200 (args.flatMap (Am 4)) []) H x
  | none=>none
  else none
 | _,_=>none
def De(laid:DD)(N:Nat)(muts:List Bool)(G:AL->Ay->GT):GN:=fun args H K=>
 match DZ (EI (Nj laid N (DE H N 200 (args.flatMap (Am 4)) []))) args,Vl (Nj laid N (DE H N 200 (args.flatMap (Am 4)) [])) H (DE H N 200 (args.flatMap (Am 4)) [])with
 | some argsc,some objs=>bif I0 muts H 0 (DE H N 200 (args.flatMap (Am 4)) [])then
  (G argsc objs).Xm fun x=>match To laid N muts (DE H N 200 (args.flatMap (Am 4)) []) H x with
   | some (v,H')=>K v H'
   | none=>False
  else False
 | _,_=>False
theorem Gh{X:Ctx}{laid:DD}{f:FuncId}{N:Nat}{muts:List Bool}{G:AL->Ay->GT}(hX:X.Hp f=some (Ab laid N muts G)){args:AL}{H:AA}{K:H5}(h:De laid N muts G args H K):
 ∃v H',B3 X f args .normal H=some (v,H')/\K v H':=by
 unfold De at h;split at h
 .rename_i argsc objs h1 h2;cases hm:I0 muts H 0 (DE H N 200 (args.flatMap (Am 4)) [])
  .simp only[hm,AAR]at h
  .simp only[hm,AAO]at h;obtain⟨x,hx,h3⟩:=GT.IN h;split at h3
   .rename_i v H' he;refine⟨v,H',?_,h3⟩;unfold B3;simp only[hX];unfold Ab;simp only[h1,h2,hm,AAO,hx,he]
   .cases h3
 .cases h
def D1(laid:DD)(N m:Nat)(muts:List Bool)(x:Vp)(v:Value)(Hf:AA):Prop:=
 ∃ns:AP,ns.Nodup/\(∀b∈ns,N+m<=b)/\ns.length=x.news.length/\EI (J0 laid N m ns) x.v=some v/\
  (∀(j b:Nat)(o:AJ),ns[j]? = some b->x.news[j]? = some o->∃o1,BF (J0 laid N m ns) o=some o1/\Hf.get b=some o1)/\
  (∀(j:Nat)(o:AJ),j < m->GH muts j=true->x.Yy[j]? = some (some o)->∃o1,BF (J0 laid N m ns) o=some o1/\Hf.get (N+j)=some o1)
where
 J0 (laid:DD) (N m:Nat) (ns:AP):Ren:=fun b=>if b < N then NO laid N b else if b < N+m then some b else ns[b - (N+m)]?
theorem G9{f g:Value->DJ}(h:∀v w,f v=some w->g w=some v):∀(l m:AL),DZ f l=some m->DZ g m=some l
 | [],_,e=>by cases e;rfl
 | v::l,m,e=>by
  simp only[DZ]at e;split at e
  .rename_i w k e1 e2;cases e
   simp only[DZ,h _ _ e1,G9 h l k e2]
  .cases e
theorem PM{σ τ:Ren}(h:∀b c,σ b=some c->τ c=some b):∀(n:Nat)(v w:Value),CA σ n v=some w->CA τ n w=some v:=by
 intro n;induction n with
 | zero=>intro v w e;cases e
 | succ n ih=>
  intro v w e;cases v with
  | bool b=>cases e;rfl
  | int k m=>cases e;rfl
  | float k m=>cases e;rfl
  | string s=>cases e;rfl
  | pointer a=>
   cases a with
   | none=>cases e;rfl
   | some a=>
    simp only[CA,AAV]at e;obtain⟨a1,h1,rfl⟩:=e;obtain⟨b,o,s,i,rfl,h2,rfl⟩:=FF h1;simp only[CA,Jq,h _ _ h2,AA8]
  | slice a l c=>
   cases a with
   | none=>cases e;rfl
   | some a=>
    simp only[CA,AAV]at e;obtain⟨a1,h1,rfl⟩:=e;obtain⟨b,o,s,i,rfl,h2,rfl⟩:=FF h1;simp only[CA,Jq,h _ _ h2,AA8]
  | map a=>
   cases a with
   | none=>cases e;rfl
   | some a=>
    simp only[CA,AAV]at e;obtain⟨i,h1,rfl⟩:=e;simp only[CA,h _ _ h1,AA8]
  | nilFunc=>cases e;rfl
  | nilIface=>cases e;rfl
  | iface t v=>
   simp only[CA,AAV]at e;obtain⟨w1,h1,rfl⟩:=e;simp only[CA,ih _ _ h1,AA8]
  | agg cs=>
   simp only[CA,AAV]at e;obtain⟨l,h1,rfl⟩:=e;simp only[CA,G9 ih _ _ h1,AA8]
  | tuple cs=>
   simp only[CA,AAV]at e;obtain⟨l,h1,rfl⟩:=e;simp only[CA,G9 ih _ _ h1,AA8]
  | func f xs ys=>
   cases f with
   | func f=>
    simp only[CA]at e;split at e
    .rename_i a b e1 e2;cases e
     simp only[CA,G9 ih _ _ e1,G9 ih _ _ e2]
    .cases e
   | _=>simp[CA]at e
  | chan c=>
   cases c with
   | none=>simp[CA]at e
   | some k=>
    cases k with
    | zero=>cases e;rfl
    | succ k=>simp[CA]at e
  | _=>simp[CA]at e
theorem VR{f g:Value->DJ}(h:∀v w,f v=some w->g w=some v):∀(l m:List (EK.C [.str,.tok])),IH f l=some m->IH g m=some l
 | [],_,e=>by cases e;rfl
 | x::l,m,e=>by
  simp only[IH]at e;split at e
  .rename_i w k e1 e2;cases e
   simp only[IH,h _ _ e1,VR h l k e2]
  .cases e
theorem WQ{σ τ:Ren}(h:∀b c,σ b=some c->τ c=some b){o o1:AJ}(e:BF σ o=some o1):BF τ o1=some o:=by
 cases o with
 | cells cs k ro=>
  simp only[BF,AAV]at e;obtain⟨l,h1,rfl⟩:=e;simp only[BF,G9 (PM h 6) _ _ h1,AA8]
 | vec k l ro=>
  rcases Rc e with⟨l2,l1,e2,h1,rfl⟩ | ⟨hk,rfl⟩ | ⟨l2,l1,e2,h1,rfl⟩
  .cases e2
   exact Vn (G9 (PM h 6) _ _ h1)
  .exact H8 _ hk _ _
  .cases e2
   exact TG (VR (PM h 6) _ _ h1)
 | abs a ro=>
  simp only[BF]at e;cases hx:a.HY
  .simp[hx]at e
  .simp only[hx,AAO,AAN]at e;subst e;simp only[BF,hx,AAO]
 | _=>simp[BF]at e
theorem Gu{f g k:Value->DJ}(h:∀v w,f v=some w->g w=k v):∀(l m:AL),DZ f l=some m->DZ g m=DZ k l
 | [],_,e=>by cases e;rfl
 | v::l,m,e=>by
  simp only[DZ]at e;split at e
  .rename_i w q e1 e2;cases e
   simp only[DZ,h _ _ e1,Gu h l q e2]
  .cases e
theorem NK{σ τ υ:Ren}(h:∀b c,σ b=some c->τ c=υ b):∀(n:Nat)(v w:Value),CA σ n v=some w->CA τ n w=CA υ n v:=by
 intro n;induction n with
 | zero=>intro v w e;cases e
 | succ n ih=>
  intro v w e;cases v with
  | bool b=>cases e;rfl
  | int k m=>cases e;rfl
  | float k m=>cases e;rfl
  | string s=>cases e;rfl
  | pointer a=>
   cases a with
   | none=>cases e;rfl
   | some a=>
    simp only[CA,AAV]at e;obtain⟨a1,h1,rfl⟩:=e;obtain⟨b,o,s,i,rfl,h2,rfl⟩:=FF h1;simp only[CA,Jq,h _ _ h2]
  | slice a l c=>
   cases a with
   | none=>cases e;rfl
   | some a=>
    simp only[CA,AAV]at e;obtain⟨a1,h1,rfl⟩:=e;obtain⟨b,o,s,i,rfl,h2,rfl⟩:=FF h1;simp only[CA,Jq,h _ _ h2]
  | map a=>
   cases a with
   | none=>cases e;rfl
   | some a=>
    simp only[CA,AAV]at e;obtain⟨i,h1,rfl⟩:=e;simp only[CA,h _ _ h1]
  | nilFunc=>cases e;rfl
  | nilIface=>cases e;rfl
  | iface t v=>
   simp only[CA,AAV]at e;obtain⟨w1,h1,rfl⟩:=e;simp only[CA,ih _ _ h1]
  | agg cs=>
   simp only[CA,AAV]at e;obtain⟨l,h1,rfl⟩:=e;simp only[CA,Gu ih _ _ h1]
  | tuple cs=>
   simp only[CA,AAV]at e;obtain⟨l,h1,rfl⟩:=e;simp only[CA,Gu ih _ _ h1]
  | func f xs ys=>
   cases f with
   | func f=>
    simp only[CA]at e;split at e
    .rename_i a b e1 e2;cases e
     simp only[CA,Gu ih _ _ e1,Gu ih _ _ e2]
    .cases e
   | _=>simp[CA]at e
  | chan c=>
   cases c with
   | none=>simp[CA]at e
   | some k=>
    cases k with
    | zero=>cases e;rfl
    | succ k=>simp[CA]at e
  | _=>simp[CA]at e
theorem S8{f g k:Value->DJ}(h:∀v w,f v=some w->g w=k v):∀(l m:List (EK.C [.str,.tok])),IH f l=some m->IH g m=IH k l
 | [],_,e=>by cases e;rfl
 | x::l,m,e=>by
  simp only[IH]at e;split at e
  .rename_i w q e1 e2;cases e
   simp only[IH,h _ _ e1,S8 h l q e2]
  .cases e
theorem SW{σ τ υ:Ren}(h:∀b c,σ b=some c->τ c=υ b){o o1:AJ}(e:BF σ o=some o1):BF τ o1=BF υ o:=by
 cases o with
 | cells cs k ro=>
  simp only[BF,AAV]at e;obtain⟨l,h1,rfl⟩:=e;simp only[BF,Gu (NK h 6) _ _ h1]
 | vec k l ro=>
  rcases Rc e with⟨l2,l1,e2,h1,rfl⟩ | ⟨hk,rfl⟩ | ⟨l2,l1,e2,h1,rfl⟩
  .cases e2
   show(DZ (EI τ) l1).map _=(DZ (EI υ) l2).map _;rw[Gu (NK h 6) _ _ h1]
  .rw[H8 _ hk,H8 _ hk]
  .cases e2
   show(IH (EI τ) l1).map _=(IH (EI υ) l2).map _;rw[S8 (NK h 6) _ _ h1]
 | abs a ro=>
  simp only[BF]at e;cases hx:a.HY
  .simp[hx]at e
  .simp only[hx,AAO,AAN]at e;subst e;simp only[BF,hx,AAO]
 | _=>simp[BF]at e
theorem N0{ρ:Ren}{o o1:AJ}(h:BF ρ o=some o1):BF ρ (IY o)=some (IY o1)/\(IY o).ro=true:=by
 cases o with
 | cells cs k ro=>
  simp only[BF,AAV]at h;obtain⟨l,h1,rfl⟩:=h;exact⟨by simp only[IY,BF,h1,AA8],rfl⟩
 | vec k l ro=>
  rcases Rc h with⟨l2,l1,e2,h1,rfl⟩ | ⟨hk,rfl⟩ | ⟨l2,l1,e2,h1,rfl⟩
  .cases e2
   exact⟨Vn h1,rfl⟩
  .exact⟨H8 _ hk _ _,rfl⟩
  .cases e2
   exact⟨TG h1,rfl⟩
 | abs a ro=>
  simp only[BF]at h;cases hx:a.HY
  .simp[hx]at h
  .simp only[hx,AAO,AAN]at h;subst h;exact⟨by simp only[IY,BF,hx,AAO],rfl⟩
 | _=>simp[BF]at h
section
variable {laid:DD}{N:Nat}{bs:AP}
theorem Q0{b i:Nat}(h:NO laid N b=some i):i=b/\b < N/\laid.any (fun p=>Nat.beq b p.1)=true:=by
 unfold NO at h;cases hc:(Nat.blt b N&&laid.any (fun p=>Nat.beq b p.1))
 .simp only[hc,AAR]at h;cases h
 .simp only[hc,AAO,AAN]at h;simp only[AAQ]at hc;exact⟨h.symm,VC hc.1,hc.2⟩
theorem Ki{b:Nat}(h:b < N):Gf laid N bs b=NO laid N b:=by
 unfold Gf;rw[show Nat.blt b N=true from AAS h];rfl
theorem Fu{b:Nat}(h:N<=b):Gf laid N bs b=bs[b - N]?:=by
 unfold Gf;cases hb:Nat.blt b N
 .rfl
 .have:b < N:=VC hb;omega
theorem YE{b c:Nat}(h:Nj laid N bs b=some c):Gf laid N bs c=some b:=by
 unfold Nj at h;cases hb:Nat.blt b N
 .simp only[hb,AAR]at h;obtain⟨h1,h2,h3⟩:=Py h;rw[Fu h1];exact h3
 .simp only[hb,AAO]at h;obtain⟨rfl,h2,_⟩:=Q0 h;rw[Ki h2];exact h
end
theorem U3{ρ:Ren}{H:AA}:∀{bs:AP}{objs:Ay},Vl ρ H bs=some objs->objs.length=bs.length/\∀(j b:Nat),bs[j]? = some b->∃o o1,H.get b=some o/\BF ρ o=some o1/\objs[j]? = some o1
 | [],_,h=>by cases h;exact⟨rfl,fun j b hb=>by cases hb⟩
 | a::r,objs,h=>by
  simp only[Vl]at h;split at h
  .rename_i o ho;split at h
   .rename_i o1 l h1 h2;cases h
    obtain⟨i1,i2⟩:=U3 h2;refine⟨by simp[i1],fun j b hb=>?_⟩;cases j with
    | zero=>
     simp only[ABg,AAN]at hb;subst hb;exact⟨o,o1,ho,h1,rfl⟩
    | succ j=>exact i2 j b hb
   .cases h
  .cases h
theorem NW(muts:List Bool):∀(objs:Ay)(j0 j:Nat),(Eg muts j0 objs)[j]? = (objs[j]?).map fun o=>bif GH muts (j0+j)then o else IY o
 | [],j0,j=>by simp[Eg]
 | o::r,j0,0=>by simp[Eg]
 | o::r,j0,j+1=>by
  simp only[Eg,ABK];rw[NW muts r (j0+1) j,show j0+1+j=j0+(j+1) by omega]
theorem MZ(muts:List Bool):∀(objs:Ay)(j0:Nat),(Eg muts j0 objs).length=objs.length
 | [],_=>rfl
 | o::r,j0=>by simp[Eg,MZ muts r]
theorem Kr:∀(l:Ay)(H:AA),(DT H l).next=H.next+l.length
 | [],_=>rfl
 | o::r,H=>by
  simp only[DT];rw[Kr r];show H.next+1+r.length=_;simp only[AAz];omega
theorem D5:∀(l:Ay)(H:AA)(i:Nat),(DT H l).get i=if i < H.next then H.get i else match l[i - H.next]? with | some o=>some o | none=>H.get i
 | [],H,i=>by simp only[DT,List.getElem?_nil];split<;>rfl
 | o::r,H,i=>by
  simp only[DT];rw[D5 r];have hn:(H.alloc o).next=H.next+1:=rfl;rw[hn]
  by_cases h1:i < H.next
  .rw[AAZ (by omega),AAZ h1,AA.AN,AAW (by omega)]
  .rw[AAW h1]
   by_cases h2:i=H.next
   .subst h2;rw[AAZ (by omega),AA.AN,AAZ rfl,ABQ];rfl
   .rw[AAW (by omega),show i - H.next=(i - (H.next+1))+1 by omega,ABK,AA.AN,AAW h2]
theorem Pq{muts:List Bool}{H:AA}:∀{bs:AP}{j0:Nat},I0 muts H j0 bs=true->∀(j b:Nat),bs[j]? = some b->GH muts (j0+j)=true->∃o,H.get b=some o/\o.ro=false
 | [],_,_,j,b,hb,_=>by cases hb
 | a::r,j0,h,j,b,hb,hm=>by
  simp only[I0,AAQ]at h;cases j with
  | zero=>
   simp only[ABg,AAN]at hb;subst hb;rw[AB6]at hm;rw[hm]at h;simp only[AAO]at h;cases hg:H.get a with
   | none=>rw[hg]at h;cases h.1
   | some o=>rw[hg]at h;exact⟨o,rfl,by simpa using h.1⟩
  | succ j=>exact Pq h.2 j b hb (by rw[show j0+1+j=j0+(j+1) by omega];exact hm)
theorem SV{ρ:Ren}{muts:List Bool}:∀{bs:AP}{H H1:AA}{j0:Nat}{os:J9},OQ ρ muts H j0 bs os=some H1->bs.Nodup->
 H1.next=H.next/\(∀i,i∉bs->H1.get i=H.get i)/\(∀(j b:Nat),bs[j]? = some b->GH muts (j0+j)=false->H1.get b=H.get b)/\
 (∀(j b:Nat)(o1:AJ),bs[j]? = some b->GH muts (j0+j)=true->H1.get b=some o1->∃o,os[j]? = some (some o)/\BF ρ o=some o1/\o1.ro=false)
 | [],H,H1,j0,os,h,_=>by cases h;exact⟨rfl,fun _ _=>rfl,fun j b hb=>(by cases hb),fun j b o1 hb=>(by cases hb)⟩
 | a::r,H,H1,j0,os,h,hn=>by
  have hn:=List.nodup_cons.1 hn;have step:∀(H2:AA)(os2:J9)(hn2:H2.next=H.next)(hg2:∀i,i≠a->H2.get i=H.get i)(hos:∀j,os2[j]? = os[j+1]?),OQ ρ muts H2 (j0+1) r os2=some H1->(GH muts j0=false->H2.get a=H.get a)->(∀o1,GH muts j0=true->H2.get a=some o1->∃o,os[0]? = some (some o)/\BF ρ o=some o1/\o1.ro=false)->
   H1.next=H.next/\(∀i,i∉a::r->H1.get i=H.get i)/\(∀(j b:Nat),(a::r)[j]? = some b->GH muts (j0+j)=false->H1.get b=H.get b)/\
   (∀(j b:Nat)(o1:AJ),(a::r)[j]? = some b->GH muts (j0+j)=true->H1.get b=some o1->∃o,os[j]? = some (some o)/\BF ρ o=some o1/\o1.ro=false):=by
   intro H2 os2 hn2 hg2 hos hb h0 h1;obtain⟨i1,i2,i3,i4⟩:=SV hb hn.2;refine⟨i1.trans hn2,fun i hi=>?_,fun j b hj hm=>?_,fun j b o1 hj hm hg=>?_⟩
   .rw[i2 i (fun h=>hi (ABT _ h)),hg2 i (fun h=>hi (h ▸ ABL))]
   .cases j with
    | zero=>
     simp only[ABg,AAN]at hj;subst hj;rw[i2 a hn.1];exact h0 hm
    | succ j=>
     have hj:r[j]? = some b:=hj;rw[i3 j b hj (by rw[show j0+1+j=j0+(j+1) by omega];exact hm),hg2 b];rintro rfl;exact hn.1 (AA1 hj)
   .cases j with
    | zero=>
     simp only[ABg,AAN]at hj;subst hj;rw[i2 a hn.1]at hg;exact h1 o1 hm hg
    | succ j=>
     have hj:r[j]? = some b:=hj;obtain⟨o,q1,q2⟩:=i4 j b o1 hj (by rw[show j0+1+j=j0+(j+1) by omega];exact hm) hg;rw[hos j]at q1;exact⟨o,q1,q2⟩
  unfold OQ at h;cases hm:GH muts j0
  .simp only[hm,AAR]at h;exact step H os.tail rfl (fun _ _=>rfl) (fun j=>by cases os<;>simp) h (fun _=>rfl) (fun o1 hh=>by rw[hm]at hh;cases hh)
  .simp only[hm,AAO]at h;split at h
   .rename_i o os2;split at h
    .rename_i o1 ho1;cases hro:o1.ro
     .simp only[hro,AAR]at h;exact step (H.put a o1) os2 rfl (fun i hi=>by rw[AA.AQ,AAW hi]) (fun _=>rfl) h (fun hh=>by rw[hm]at hh;cases hh) (fun o2 _ hg=>by
       rw[AA.AQ,AAZ rfl]at hg;cases hg;exact⟨o,rfl,ho1,hro⟩)
     .simp only[hro,AAO]at h;cases h
    .cases h
   .rename_i os2;exact step (H.del a) os2 rfl (fun i hi=>by rw[AA.BK,AAW hi]) (fun _=>rfl) h (fun hh=>by rw[hm]at hh;cases hh) (fun o2 _ hg=>by rw[AA.BK,AAZ rfl]at hg;cases hg)
   .exact step (H.del a) [] rfl (fun i hi=>by rw[AA.BK,AAW hi]) (fun _=>rfl) h (fun hh=>by rw[hm]at hh;cases hh) (fun o2 _ hg=>by rw[AA.BK,AAZ rfl]at hg;cases hg)
theorem V7{ρ:Ren}:∀{l:Ay}{H H1:AA},od ρ H l=some H1->H1.next=H.next+l.length/\(∀i,i < H.next->H1.get i=H.get i)/\(∀i o1,H.next<=i->i < H.next+l.length->H1.get i=some o1->∃o,l[i - H.next]? = some o/\BF ρ o=some o1/\o1.ro=false)/\(∀i,H.next+l.length<=i->H1.get i=H.get i)
 | [],H,H1,h=>by cases h;exact⟨rfl,fun _ _=>rfl,fun i o1 h1 h2=>by simp at h2;omega,fun _ _=>rfl⟩
 | o::r,H,H1,h=>by
  simp only[od]at h;split at h
  .rename_i o1 ho1;cases hro:o1.ro
   .simp only[hro,AAR]at h;obtain⟨i1,i2,i3,i4⟩:=V7 h;have hn:(H.alloc o1).next=H.next+1:=rfl;rw[hn]at i1 i2 i3 i4;simp only[AAz];refine⟨by omega,fun i hi=>?_,fun i o2 h1 h2 hg=>?_,fun i hi=>?_⟩
    .rw[i2 i (by omega),AA.AN,AAW (by omega)]
    .by_cases e:i=H.next
     .subst e;rw[i2 _ (by omega),AA.AN,AAZ rfl]at hg;cases hg
      exact⟨o,by rw[ABQ];rfl,ho1,hro⟩
     .obtain⟨o3,q1,q2⟩:=i3 i o2 (by omega) (by omega) hg;exact⟨o3,by rw[show i - H.next=(i - (H.next+1))+1 by omega,ABK];exact q1,q2⟩
    .rw[i4 i (by omega),AA.AN,AAW (by omega)]
   .simp only[hro,AAO]at h;cases h
  .cases h
theorem hJ{Z:AW}:∀(n:Nat)(v v':Value),AF Z v v'->∀b∈Am n v,∃T,Z b=some T:=by
 intro n;induction n with
 | zero=>intro v v' _ b hb;cases hb
 | succ n ih=>
  intro v v' h b hb;have hl:∀(l l':AL),Af Z l l'->b∈l.flatMap (Am n)->∃T,Z b=some T:=by
   intro l l' hr hm;induction hr with
   | nil=>cases hm
   | cons h1 _ ihl=>
    rw[AC7,ACj]at hm;rcases hm with hm | hm
    .exact ih _ _ h1 b hm
    .exact ihl hm
  cases h with
  | Bo=>simp[Am,Bo]at hb
  | ptr c o T hm=>simp only[Am,AAg]at hb;subst hb;exact⟨T,hm⟩
  | HV c o j T hm=>simp only[Am,AAg]at hb;subst hb;exact⟨T,hm⟩
  | Hn c o j T M hm=>simp only[Am,AAg]at hb;subst hb;exact⟨T,hm⟩
  | slice c o l k k' o' T hm _ _=>simp only[Am,AAg]at hb;subst hb;exact⟨T,hm⟩
  | Bd c j l k k' o' T hm _ _ _=>simp only[Am,AAg]at hb;subst hb;exact⟨T,hm⟩
  | Dz c j k T _ hm _=>simp only[Am,AAg]at hb;subst hb;exact⟨T,hm⟩
  | C9 c j l k k' o' T M hm _ _ _ _=>simp only[Am,AAg]at hb;subst hb;exact⟨T,hm⟩
  | GI c j k T _ hm _=>simp only[Am,AAg]at hb;subst hb;exact⟨T,hm⟩
  | map c T hm=>simp only[Am,AAg]at hb;subst hb;exact⟨T,hm⟩
  | iface t a a' ha=>exact ih _ _ ha b hb
  | agg xs xs' hx ex=>
   obtain⟨ys,he,hl2⟩:=AF.Cr.1 (.agg xs xs' hx ex);exact hl _ _ hl2 hb
  | tuple xs xs' hx ex=>
   obtain⟨ys,he,hl2⟩:=AF.CM.1 (.tuple xs xs' hx ex);exact hl _ _ hl2 hb
  | func fn fn' xs xs' ys ys' hf hx ex hy ey=>
   obtain⟨fn2,xs2,ys2,he,hf2,hx2,hy2⟩:=AF.Cd.1 (.func fn fn' xs xs' ys ys' hf hx ex hy ey);simp only[Am,ACj]at hb;rcases hb with hb | hb
   .exact hl _ _ hx2 hb
   .exact hl _ _ hy2 hb
  | _=>cases hb
theorem Fb{Z:AW}{l l':AL}(h:Af Z l l'):∀b∈l.flatMap (Am 4),∃T,Z b=some T:=by
 intro b hb;induction h with
 | nil=>cases hb
 | cons h1 _ ih=>
  rw[AC7,ACj]at hb;rcases hb with hb | hb
  .exact hJ 4 _ _ h1 b hb
  .exact ih hb
theorem Xo{k:EK}{l:List (EK.C k)}{ro:Bool}{c:Nat}(h:c∈US (.vec k l ro)):c∈List.flatMap (Am 4) (Ac k l):=by
 unfold US at h;split at h
 .rename_i heq;cases heq
 .rename_i l2 ro2 he;cases he
  rw[D8];exact h
 .rename_i l2 ro2 he;cases he
  exact h
 .cases h
theorem TP{base:Env}{W0 W:World}{Z:AW}{H:AA}(hH:AH base W0 Z H W){N:Nat}:∀(f:Nat)(todo seen:AP),(∀b∈todo,∃T,Z b=some T)->(seen.Nodup/\∀b∈seen,N<=b/\∃T,Z b=some T)->
 (DE H N f todo seen).Nodup/\∀b∈DE H N f todo seen,N<=b/\∃T,Z b=some T:=by
 intro f;induction f with
 | zero=>intro todo seen _ h;exact h
 | succ f ih=>
  intro todo seen ht hs;unfold DE;split
  .exact hs
  .rename_i b r;cases hc:(Nat.blt b N||seen.any (Nat.beq b))
   .simp only[AAR];simp only[ABk]at hc;obtain⟨T,hT⟩:=ht b (by simp);have hNb:N<=b:=by
     rcases AAt b N with h | h
     .have:=AAS h;rw[show Nat.ble (b+1) N=Nat.blt b N from rfl,hc.1]at this;cases this
     .exact h
    split
    .rename_i o ho;refine ih _ _ (fun c hc2=>?_) ⟨?_,fun c hc2=>?_⟩
     .rcases List.mem_append.1 hc2 with hc2 | hc2
      .cases o with
       | cells cs e ro=>
        obtain⟨o',_,hr⟩:=hH.obj b _ ho T hT;cases hr with
        | cells _ _ _ arr t lo hi he hcl hr hf=>exact Fb hcl c hc2
       | vec k l ro=>
        have hc3:=Xo hc2;obtain⟨o',_,hr⟩:=hH.obj b _ ho T hT;cases hr with
        | vec _ _ _ _ hc=>
         cases hc with
         | cells _ _ _ arr t lo hi he hcl hr hf=>exact Fb hcl c hc3
        | D7 _ _ _ _ _ _=>cases hc3
       | _=>simp[US]at hc2
      .exact ht c (by simp[hc2])
     .rw[List.nodup_append];refine⟨hs.1,by simp,?_⟩;intro x hx y hy;simp only[AAg]at hy;subst hy;rintro rfl;have:=List.any_eq_true.2 ⟨x,hx,AAu x⟩;rw[hc.2]at this;cases this
     .rcases List.mem_append.1 hc2 with hc2 | hc2
      .exact hs.2 c hc2
      .simp only[AAg]at hc2;subst hc2;exact⟨hNb,T,hT⟩
    .exact ih _ _ (fun c hc2=>ht c (by simp[hc2])) hs
   .simp only[AAO];exact ih _ _ (fun c hc2=>ht c (by simp[hc2])) hs
def CN(b nx i:Nat):Nat:=if i=0 then b else nx+(i - 1)
def Hg(b nx n:Nat)(ext:AP:=[]):Ren:=fun i=>if i < n then some (CN b nx i)else ext[i - n]?
def Ul(ro:Bool)(o:AJ):AJ:=if ro then IY o else o
theorem fj{Z:AW}{T:BQ}{o:AJ}{o':Obj}{ro:Bool}(h:Cb Z T o o'):Cb Z T (Ul ro o) o':=by
 cases ro
 .exact h
 .exact Ws h
theorem Gs{ro:Bool}{o:AJ}{T:BQ}:(Ul ro o).void T <-> o.void T:=by
 cases ro
 .exact ACI
 .exact SN
theorem mZ{ro:Bool}{o:AJ}(hp:o.Kl=true)(h:o.ro=false):(Ul ro o).ro=ro:=by
 cases ro
 .exact h
 .cases o<;>first | rfl | cases hp
structure EU(H:AA)(b:Nat)(ro:Bool)(objs:Ay)(H':AA)(ext:AP:=[]):Prop where
 next:H'.next=H.next+(objs.length - 1)
 GM:∀x,x≠b->x < H.next->H'.get x=H.get x
 top:∀x,H'.next<=x->H'.get x=none
 obj:∀(i:Nat)(o:AJ),objs[i]? = some o->∃o1,BF (Hg b H.next objs.length ext) (Ul ro o)=some o1/\H'.get (CN b H.next i)=some o1
section
variable {base:Env}{W0:World}{Z:AW}{H:AA}{W:World}
theorem AH.opened(h:AH base W0 Z H W){b:Nat}{s:Pk}{ro:Bool}{T:BQ}(hb:H.get b=some (.abs (.pack s) ro))(hm:Z b=some T):
 ∃objs,Bh s objs/\∀H',EU H b ro objs H' (DO s)->∃μ',AH base W0 μ' H' W/\Ah Z H μ' H'/\∀i,i < objs.length->∃T,μ' (CN b H.next i)=some T:=by
 obtain⟨φ,q⟩:=h.abs;obtain⟨hrep,hK⟩:=q.rep b _ ro T hb hm;have hrep:Fv Z W s T (φ b):=hrep;have hlt:=h.lt hb;generalize hFb:φ b=F at hrep;cases hrep with
 | mk _ objs ts Fs _ _ hr hl hT hroot hobj hcell hbld hmem hext hpack hdis hF us Fm hmp hmq=>
  refine⟨objs,hr,fun H' hH=>?_⟩;have h0:0 < objs.length:=by
   rcases AB4 objs.length with h | h
   .rw[AAq (by omega)]at hT;cases hT
   .exact h
  let μ':AW:=fun x=>if H.next<=x/\x < H.next+(objs.length - 1)then ts[x - H.next+1]? else Z x
  have mlow:∀x,x < H.next->μ' x=Z x:=fun x hx=>by show(if _ then _ else _)=_;rw[AAW (by omega)]
  have mpk:∀i,i < objs.length->μ' (CN b H.next i)=ts[i]?:=by
   intro i hi;unfold CN
   by_cases e:i=0
   .subst e;rw[AAZ rfl,mlow b hlt,hm,hT]
   .rw[AAW e];show(if _ then _ else _)=_;rw[AAZ (by omega),show H.next+(i - 1) - H.next+1=i by omega]
  have mtop:∀x,H'.next<=x->μ' x=none:=by
   intro x hx;rw[hH.next]at hx;show(if _ then _ else _)=_;rw[AAW (by omega)];exact(h.fresh x (by omega)).2
  have mle:Z.le μ':=by
   intro x X e;rcases AAt x H.next with hx | hx
   .rw[mlow x hx];exact e
   .rw[(h.fresh x hx).2]at e;cases e
  have key:∀x o1,H'.get x=some o1->(∃i o,i < objs.length/\objs[i]? = some o/\x=CN b H.next i/\BF (Hg b H.next objs.length (DO s)) (Ul ro o)=some o1)\/(x≠b/\x < H.next/\H.get x=some o1):=by
   intro x o1 hx;have pk:∀i,i < objs.length->x=CN b H.next i->∃i o,i < objs.length/\objs[i]? = some o/\x=CN b H.next i/\BF (Hg b H.next objs.length (DO s)) (Ul ro o)=some o1:=by
    intro i hi e;obtain⟨o2,r1,r2⟩:=hH.obj i _ (AAU hi);rw[<-e,hx]at r2;cases r2
    exact⟨i,_,hi,AAU hi,e,r1⟩
   by_cases e:x=b
   .exact .inl (pk 0 h0 (by unfold CN;rw[AAZ rfl];exact e))
   .rcases AAt x H.next with hx2 | hx2
    .exact .inr ⟨e,hx2,by rw[<-hH.GM x e hx2];exact hx⟩
    .rcases AAt x H'.next with hx3 | hx3
     .rw[hH.next]at hx3;exact .inl (pk (x - H.next+1) (by omega) (by unfold CN;rw[AAW (by omega)];omega))
     .rw[hH.top x hx3]at hx;cases hx
  have pinj:∀i j,i < objs.length->j < objs.length->CN b H.next i=CN b H.next j->i=j:=by
   intro i j hi hj e;unfold CN at e
   by_cases e1:i=0
   .by_cases e2:j=0
    .omega
    .rw[AAZ e1,AAW e2]at e;omega
   .by_cases e2:j=0
    .rw[AAW e1,AAZ e2]at e;omega
    .rw[AAW e1,AAW e2]at e;omega
  have own:∀i o T',objs[i]? = some o->ts[i]? = some T'->(¬o.void T'->Fs i T'.c)/\(∀x,Fs i x->F x):=by
   intro i o T' ho ht;have hi:i < objs.length:=(List.getElem?_eq_some_iff.1 ho).1;refine⟨?_,fun x hx=>(hF x).2 ⟨i,hi,hx⟩⟩;cases hab:o.isAbs
   .exact fun hv=>(hcell i o T' ho ht hab _).2 ⟨rfl,hv⟩
   .obtain⟨a,r,rfl⟩:=Ft hab;cases a with
    | eX t e l=>exact fun _=>(GV.JO (hbld i t e l r T' ho ht)).1
    | pack s'=>exact fun _=>(Fv.JO (hpack i s' r T' ho ht)).1
    | mem k L=>exact fun hv=>absurd trivial hv
    | Bk L=>exact fun hv=>absurd trivial hv
  have rep:∀i a r T',objs[i]? = some (.abs a r)->ts[i]? = some T'->Ga Z a T' (Fs i) W:=by
   intro i a r T' ho ht;cases a with
   | eX t e l=>exact hbld i t e l r T' ho ht
   | pack s'=>exact hpack i s' r T' ho ht
   | mem k L=>exact hmem i k L r T' ho ht
   | Bk L=>exact⟨us i,Fm i,hmp i L r T' ho ht,fun j M s' hM hj=>hmq i L r j M s' ho hM hj⟩
  have absOf:∀{o:AJ}{a:CR}{r:Bool},BF (Hg b H.next objs.length (DO s)) (Ul ro o)=some (.abs a r)->∃r0,o= .abs a r0/\(r0=false->r=ro):=by
   intro o a r e;have e1:=((Er e).2.2 a r rfl).1;cases ro
   .exact⟨r,e1,fun h=>h⟩
   .cases o<;>first | (cases e1;done) | skip
    rename_i a0 r0;have e1:AJ.abs a0 true= .abs a r:=e1;cases e1
    exact⟨r0,rfl,fun _=>rfl⟩
  refine⟨μ',⟨?_,?_,?_,?_,?_,h.size,h.below,h.out,h.os,?_,AW.le_trans h.le mle,h.grow⟩,⟨mle,by rw[hH.next];omega,?_⟩,fun i hi=>⟨_,by rw[mpk i hi];exact AAU (by omega)⟩⟩
  .intro x o1 hx T' hT';rcases key x o1 hx with⟨i,o,hi,ho,rfl,hr1⟩ | ⟨hxb,hxl,hx2⟩
   .rw[mpk i hi]at hT';obtain⟨_,_,o',r1,r2⟩:=hobj i o T' ho hT';refine⟨o',r1,Vg (Z:=QZ Z ts (DO s)) (fun p j X hp hX=>?_) hr1 (fj r2)⟩;unfold Hg at hp;split at hp
    .rename_i hpl;cases hp
     rw[ax (by omega)]at hX;rw[mpk p hpl];exact hX
    .rename_i hpl;unfold QZ at hX;rw[AAW (by omega),hl,hp]at hX;exact mle _ _ hX
   .rw[mlow x hxl]at hT';obtain⟨o',r1,r2⟩:=h.obj x o1 hx2 T' hT';exact⟨o',r1,r2.mono mle⟩
  .intro x o1 hx hro T' hT' hv;rcases key x o1 hx with⟨i,o,hi,ho,rfl,hr1⟩ | ⟨hxb,hxl,hx2⟩
   .rw[mpk i hi]at hT';obtain⟨g1,g2,_⟩:=hobj i o T' ho hT';have e1:ro=false:=by rw[<-mZ (ro:=ro) g2 g1,<-(Er hr1).1];exact hro
    obtain⟨f1,f2⟩:=own i o T' ho hT';exact hK e1 _ (by rw[hFb];exact f2 _ (f1 (fun hw=>hv (((CK hr1 T').trans Gs).2 hw))))
   .rw[mlow x hxl]at hT';exact h.own x o1 hx2 hro T' hT' hv
  .intro x y o1 o2 hx hy T1 T2 h1 h2 v1 v2 hc hrr;rcases key x o1 hx with⟨i,o,hi,ho,rfl,hr1⟩ | ⟨hxb,hxl,hx2⟩
   .rcases key y o2 hy with⟨j,p,hj,hp,rfl,hr2⟩ | ⟨hyb,hyl,hy2⟩
    .rw[mpk i hi]at h1;rw[mpk j hj]at h2;have f1:=(own i o T1 ho h1).1 (fun hw=>v1 (((CK hr1 T1).trans Gs).2 hw));have f2:=(own j p T2 hp h2).1 (fun hw=>v2 (((CK hr2 T2).trans Gs).2 hw));rw[hc]at f1;rw[hdis i j _ hi hj f1 f2]
    .rw[mpk i hi]at h1;rw[mlow y hyl]at h2;obtain⟨f1,f2⟩:=own i o T1 ho h1;have f1:=f1 (fun hw=>v1 (((CK hr1 T1).trans Gs).2 hw));have:=(q.C3 b _ ro T hb hm y o2 T2 hy2 h2 hyb).1 v2;rw[hFb,<-hc]at this;exact absurd (f2 _ f1) this
   .rcases key y o2 hy with⟨j,p,hj,hp,rfl,hr2⟩ | ⟨hyb,hyl,hy2⟩
    .rw[mpk j hj]at h2;rw[mlow x hxl]at h1;obtain⟨f1,f2⟩:=own j p T2 hp h2;have f1:=f1 (fun hw=>v2 (((CK hr2 T2).trans Gs).2 hw));have:=(q.C3 b _ ro T hb hm x o1 T1 hx2 h1 hxb).1 v1;rw[hFb,hc]at this;exact absurd (f2 _ f1) this
    .rw[mlow x hxl]at h1;rw[mlow y hyl]at h2;exact h.inj x y o1 o2 hx2 hy2 T1 T2 h1 h2 v1 v2 hc hrr
  .intro x hx;exact⟨hH.top x hx,mtop x hx⟩
  .intro x T' hT';have hx:H.next<=x/\x < H.next+(objs.length - 1)\/Z x=some T':=by
    by_cases c:H.next<=x/\x < H.next+(objs.length - 1)
    .exact .inl c
    .right
     have:(if H.next<=x/\x < H.next+(objs.length - 1)then ts[x - H.next+1]? else Z x)=some T':=hT'
     rwa [AAW c]at this
   rcases hx with hx | hx
   .have:(if H.next<=x/\x < H.next+(objs.length - 1)then ts[x - H.next+1]? else Z x)=some T':=hT';rw[AAZ hx]at this;have hi:x - H.next+1 < objs.length:=by omega
    obtain⟨_,_,o',r1,_⟩:=hobj (x - H.next+1) _ T' (AAU hi) this;exact lt_of_heap r1
   .exact h.bound x T' hx
  .refine⟨fun x=>if x=b then Fs 0 else if H.next<=x then Fs (x - H.next+1)else φ x,?_,?_⟩
   all_goals
    have hφ:∀i,i < objs.length->(if CN b H.next i=b then Fs 0 else if H.next<=CN b H.next i then Fs (CN b H.next i - H.next+1)else φ (CN b H.next i))=Fs i:=by
     intro i hi;unfold CN
     by_cases e:i=0
     .subst e;simp
     .rw[AAW e,AAW (by omega),AAZ (by omega),show H.next+(i - 1) - H.next+1=i by omega]
    have hφ2:∀x,x≠b->x < H.next->(if x=b then Fs 0 else if H.next<=x then Fs (x - H.next+1)else φ x)=φ x:=fun x e hx=>by rw[AAW e,AAW (by omega)]
   .intro x a r T' hx hT';rcases key x _ hx with⟨i,o,hi,ho,rfl,hr1⟩ | ⟨hxb,hxl,hx2⟩
    .simp only[hφ i hi];rw[mpk i hi]at hT';obtain⟨r0,rfl,hr0⟩:=absOf hr1;refine⟨(rep i a r0 T' ho hT').mono mle,fun hr y hy=>?_⟩;have g1:=(hobj i _ T' ho hT').1;exact hK (by rw[<-hr0 g1];exact hr) y (by rw[hFb];exact(own i _ T' ho hT').2 y hy)
    .simp only[hφ2 x hxb hxl];rw[mlow x hxl]at hT';obtain⟨w1,w2⟩:=q.rep x a r T' hx2 hT';exact⟨w1.mono mle,w2⟩
   .intro x a r T' hx hT' y o2 T2 hy hT2 hne;rcases key x _ hx with⟨i,o,hi,ho,rfl,hr1⟩ | ⟨hxb,hxl,hx2⟩
    .rw[mpk i hi]at hT';simp only[hφ i hi];rcases key y o2 hy with⟨j,p,hj,hp,rfl,hr2⟩ | ⟨hyb,hyl,hy2⟩
     .rw[mpk j hj]at hT2;simp only[hφ j hj];have hij:i≠j:=fun e=>hne (by rw[e])
      exact⟨fun hv2 e=>hij (hdis i j _ hi hj e ((own j p T2 hp hT2).1 (fun hw=>hv2 (((CK hr2 T2).trans Gs).2 hw)))),fun _ z hz hz2=>hij (hdis i j z hi hj hz hz2)⟩
     .rw[mlow y hyl]at hT2;simp only[hφ2 y hyb hyl];have hf:=q.C3 b _ ro T hb hm y o2 T2 hy2 hT2 hyb;rw[hFb]at hf;exact⟨fun hv2 e=>hf.1 hv2 ((own i o T' ho hT').2 _ e),fun hab z hz hz2=>hf.2 hab z ((own i o T' ho hT').2 _ hz) hz2⟩
    .rw[mlow x hxl]at hT';simp only[hφ2 x hxb hxl];rcases key y o2 hy with⟨j,p,hj,hp,rfl,hr2⟩ | ⟨hyb,hyl,hy2⟩
     .rw[mpk j hj]at hT2;simp only[hφ j hj];have hf:=(q.C3 x a r T' hx2 hT' b _ T hb hm (ABB hxb)).2 rfl;rw[hFb]at hf;exact⟨fun hv2 e=>hf _ e ((own j p T2 hp hT2).2 _ ((own j p T2 hp hT2).1 (fun hw=>hv2 (((CK hr2 T2).trans Gs).2 hw)))),fun _ z hz hz2=>hf z hz ((own j p T2 hp hT2).2 z hz2)⟩
     .rw[mlow y hyl]at hT2;simp only[hφ2 y hyb hyl];exact q.C3 x a r T' hx2 hT' y o2 T2 hy2 hT2 hne
  .intro x hx hn;rw[mlow x hx];refine⟨hn,?_⟩;have:x≠b:=by rintro rfl;rw[hm]at hn;cases hn
   exact hH.GM x this hx
end
theorem VL{a:CR}{r:Bool}{T:BQ}(h:¬(AJ.abs a r).void T):¬(AJ.abs a false).void T:=by cases a<;>exact h
def R7(bs ext:AP):Ren:=fun i=>if i < bs.length then bs[i]? else ext[i - bs.length]?
open Classical in
structure yC(H:AA)(s:Pk)(bs:AP)(H':AA):Prop where
 next:H'.next=H.next
 root:∀b,bs[0]? = some b->H'.get b=some (.abs (.pack s) false)
 rest:∀i b,0 < i->bs[i]? = some b->H'.get b=none
 GM:∀x,x∉bs->H'.get x=H.get x
section
variable {base:Env}{W0:World}{Z:AW}{H:AA}{W:World}
theorem AH.shut(h:AH base W0 Z H W){s:Pk}{objs:Ay}{bs:AP}(hr:Bh s objs)(hnd:bs.Nodup)(hlen:bs.length=objs.length)(hne:objs≠[])(hmap:∀b∈bs,∃T,Z b=some T)(hobj:∀(i b:Nat)(o:AJ),bs[i]? = some b->objs[i]? = some o->∃o1,H.get b=some o1/\o1.ro=false/\o1.Kl=true/\BF (R7 bs (DO s)) o=some o1){H':AA}(hS:yC H s bs H')(hroot:∀o T,objs[0]? = some o->¬o.void T):AH base W0 Z H' W/\Ah Z H Z H':=by
 obtain⟨φ,q⟩:=h.abs;have h0:0 < objs.length:=List.length_pos_iff.2 hne;let tg:Nat->BQ:=fun b=>(Z b).getD ⟨0,0,0,0⟩
 have htg:∀b∈bs,Z b=some (tg b):=by
  intro b hb;obtain⟨T,hT⟩:=hmap b hb;show Z b=some ((Z b).getD _);rw[hT];rfl
 let ts:List BQ:=bs.map tg
 have hts:∀(i b:Nat),bs[i]? = some b->ts[i]? = some (tg b):=fun i b hb=>by show(bs.map tg)[i]? = _;rw[AAi,hb];rfl
 have tsl:ts.length=objs.length:=by show(bs.map tg).length=_;rw[ABI,hlen]
 have bat:∀(i:Nat),i < objs.length->∃b,bs[i]? = some b:=fun i hi=>⟨_,AAU (by omega)⟩
 have mem:∀{i b:Nat},bs[i]? = some b->b∈bs:=fun hb=>AA1 hb
 have tsb:∀(i:Nat)(T':BQ),ts[i]? = some T'->∃b,bs[i]? = some b/\T'=tg b/\Z b=some T':=by
  intro i T' ht;have ht:(bs.map tg)[i]? = some T':=ht;rw[AAi]at ht;cases hb:bs[i]? with
  | none=>rw[hb]at ht;cases ht
  | some b=>rw[hb]at ht;cases ht;exact⟨b,rfl,rfl,htg b (mem hb)⟩
 have uniq:∀(i j b:Nat),bs[i]? = some b->bs[j]? = some b->i=j:=by
  intro i j b hi hj;obtain⟨hi1,hi2⟩:=List.getElem?_eq_some_iff.1 hi;obtain⟨hj1,hj2⟩:=List.getElem?_eq_some_iff.1 hj;have hp:=List.pairwise_iff_getElem.1 hnd;rcases Nat.lt_trichotomy i j with hh | hh | hh
  .exact absurd (hi2.trans hj2.symm) (hp i j hi1 hj1 hh)
  .exact hh
  .exact absurd (hj2.trans hi2.symm) (hp j i hj1 hi1 hh)
 let Fs:Nat->Nat->Prop:=fun i x=>∃b o,bs[i]? = some b/\H.get b=some o/\((o.isAbs=true/\φ b x)\/(o.isAbs=false/\x=(tg b).c/\¬o.void (tg b)))
 have oab:∀(i b:Nat)(o:AJ),bs[i]? = some b->objs[i]? = some o->∃o1,H.get b=some o1/\o1.ro=false/\o1.Kl=true/\BF (R7 bs (DO s)) o=some o1/\o.isAbs=o1.isAbs/\o.ro=false:=by
  intro i b o hb ho;obtain⟨o1,r1,r2,r3,r4⟩:=hobj i b o hb ho;obtain⟨e1,e2,e3⟩:=Er r4;exact⟨o1,r1,r2,r3,r4,e2.symm,by rw[<-e1];exact r2⟩
 have Fs_cell:∀(i b:Nat)(o1:AJ),bs[i]? = some b->H.get b=some o1->o1.isAbs=false->∀x,Fs i x <-> (x=(tg b).c/\¬o1.void (tg b)):=by
  intro i b o1 hb hg hab x;constructor
  .rintro⟨b2,o2,g1,g2,g3⟩;rw[hb]at g1;cases g1
   rw[hg]at g2;cases g2
   rcases g3 with⟨g3,_⟩ | ⟨_,g3⟩
   .rw[hab]at g3;cases g3
   .exact g3
  .intro e;exact⟨b,o1,hb,hg,.inr ⟨hab,e⟩⟩
 have Fs_abs:∀(i b:Nat)(o1:AJ),bs[i]? = some b->H.get b=some o1->o1.isAbs=true->∀x,Fs i x <-> φ b x:=by
  intro i b o1 hb hg hab x;constructor
  .rintro⟨b2,o2,g1,g2,g3⟩;rw[hb]at g1;cases g1
   rw[hg]at g2;cases g2
   rcases g3 with⟨_,g3⟩ | ⟨g3,_⟩
   .exact g3
   .rw[hab]at g3;cases g3
  .intro e;exact⟨b,o1,hb,hg,.inl ⟨hab,e⟩⟩
 have oro:∀(i b:Nat)(o1:AJ),i < objs.length->bs[i]? = some b->H.get b=some o1->o1.ro=false:=by
  intro i b o1 hi hb hg;obtain⟨o2,r1,r2,_⟩:=oab i b _ hb (AAU hi);rw[hg]at r1;cases r1
  exact r2
 have apart:∀b1 o1 b2 o2,b1≠b2->H.get b1=some o1->H.get b2=some o2->(o1.ro=false\/o2.ro=false)->∀T1 T2,Z b1=some T1->Z b2=some T2->∀x,((o1.isAbs=true/\φ b1 x)\/(o1.isAbs=false/\x=T1.c/\¬o1.void T1))->((o2.isAbs=true/\φ b2 x)\/(o2.isAbs=false/\x=T2.c/\¬o2.void T2))->False:=by
  intro b1 o1 b2 o2 hne12 g1 g2 hrr T1 T2 m1 m2 x p1 p2;rcases p1 with⟨a1,p1⟩ | ⟨a1,p1,v1⟩
  .obtain⟨a,r,rfl⟩:=Ft a1;rcases p2 with⟨a2,p2⟩ | ⟨a2,p2,v2⟩
   .exact(q.C3 b1 a r T1 g1 m1 b2 o2 T2 g2 m2 (ABB hne12)).2 a2 x p1 p2
   .rw[p2]at p1;exact(q.C3 b1 a r T1 g1 m1 b2 o2 T2 g2 m2 (ABB hne12)).1 v2 p1
  .rcases p2 with⟨a2,p2⟩ | ⟨a2,p2,v2⟩
   .obtain⟨a,r,rfl⟩:=Ft a2;have hf:=q.C3 b2 a r T2 g2 m2 b1 o1 T1 g1 m1 hne12;rw[p1]at p2;exact hf.1 v1 p2
   .exact hne12 (h.inj b1 b2 o1 o2 g1 g2 T1 T2 m1 m2 v1 v2 (by rw[<-p1,<-p2]) hrr)
 have root:∀(i b:Nat)(o1:AJ),bs[i]? = some b->H.get b=some o1->¬o1.void (tg b)->Fs i (tg b).c:=by
  intro i b o1 hb hg hv;cases hab:o1.isAbs
  .exact(Fs_cell i b o1 hb hg hab _).2 ⟨rfl,hv⟩
  .obtain⟨a,r,rfl⟩:=Ft hab;exact(Fs_abs i b _ hb hg rfl _).2 ((Ga.JO _ _ _ _ (q.rep b a r _ hg (htg b (mem hb))).1).1 (VL hv))
 obtain⟨b0,hb0⟩:=bat 0 h0;let F:Nat->Prop:=fun x=>∃i,i < objs.length/\Fs i x
 have hx:∀i,∃p:List BQ × (Nat->Nat->Prop),∀(L:List (Option Pk))(r:Bool)(T':BQ),objs[i]? = some (.abs (.Bk L) r)->ts[i]? = some T'->Oo L T' (Fs i) W p.1 p.2/\∀(j:Nat)(M:BQ)(s':Pk),p.1[j]? = some M->L[j]? = some (some s')->Fv Z W s' M (p.2 j):=by
  intro i
  by_cases hE:∃L r T',objs[i]? = some (.abs (.Bk L) r)/\ts[i]? = some T'
  .obtain⟨L,r,T',ho,ht⟩:=hE;obtain⟨b,hb,rfl,hm⟩:=tsb i T' ht;obtain⟨o1,r1,r2,r3,r4,r5,r6⟩:=oab i b _ hb ho;obtain⟨rfl,_⟩:=G4 r4;obtain⟨us,Fm,h1,h2⟩:=(q.rep b _ r _ r1 hm).1;have h3:Fs i=φ b:=funext fun x=>propext (Fs_abs i b _ hb r1 rfl x)
   refine⟨(us,Fm),fun L2 r2 T2 ho2 ht2=>?_⟩;rw[ho]at ho2;cases ho2
   rw[ht]at ht2;cases ht2
   rw[h3];exact⟨h1,h2⟩
  .exact⟨([],fun _ _=>False),fun L r T' ho ht=>absurd ⟨L,r,T',ho,ht⟩ hE⟩
 obtain⟨pm,hpm⟩:=Classical.axiomOfChoice hx;have hrep:Fv Z W s (tg b0) F:=by
  refine .mk s objs ts Fs _ F hr tsl (hts 0 b0 hb0) (fun o ho=>hroot o _ ho) ?_ ?_ ?_ ?_ ?_ ?_ ?_ (fun x=>ACI) (fun i=>(pm i).1) (fun i=>(pm i).2) (fun i L r T' ho ht=>(hpm i L r T' ho ht).1) (fun i L r j M s' ho hM hj=>?_)
  .intro i o T' ho ht;obtain⟨b,hb,rfl,hm⟩:=tsb i T' ht;obtain⟨o1,r1,r2,r3,r4,r5,r6⟩:=oab i b o hb ho;obtain⟨o',s1,s2⟩:=h.obj b o1 r1 _ hm;refine⟨r6,?_,o',s1,QS (ν:=Z) (fun p j X hp hX=>?_) r4 s2⟩
   .cases o1<;>cases o<;>first | rfl | (simp[BF]at r4;done) | (cases r3;done) | skip
    all_goals (simp[BF]at r4)
   .unfold R7 at hp;split at hp
    .rename_i hpl;rw[ax (by omega),hts p j hp];have:=htg j (mem hp);rw[hX]at this;exact this.symm
    .rename_i hpl;unfold QZ;rw[AAW (by omega),tsl,<-hlen,hp];exact hX
  .intro i o T' ho ht hab x;obtain⟨b,hb,rfl,hm⟩:=tsb i T' ht;obtain⟨o1,r1,r2,r3,r4,r5,r6⟩:=oab i b o hb ho;rw[Fs_cell i b o1 hb r1 (by rw[<-r5];exact hab) x];exact and_congr_right fun _=>not_congr (CK r4 _)
  .intro i t e l r T' ho ht;obtain⟨b,hb,rfl,hm⟩:=tsb i T' ht;obtain⟨o1,r1,r2,r3,r4,r5,r6⟩:=oab i b _ hb ho;obtain⟨rfl,_⟩:=G4 r4;have h1:=(q.rep b _ r _ r1 hm).1;have h2:Fs i=φ b:=funext fun x=>propext (Fs_abs i b _ hb r1 rfl x)
   rw[h2];exact h1
  .intro i k L r T' ho ht;obtain⟨b,hb,rfl,hm⟩:=tsb i T' ht;obtain⟨o1,r1,r2,r3,r4,r5,r6⟩:=oab i b _ hb ho;obtain⟨rfl,_⟩:=G4 r4;have h1:=(q.rep b _ r _ r1 hm).1;have h2:Fs i=φ b:=funext fun x=>propext (Fs_abs i b _ hb r1 rfl x)
   rw[h2];exact h1
  .intro i s' r ho;obtain⟨b,hb⟩:=bat i (List.getElem?_eq_some_iff.1 ho).1;obtain⟨o1,r1,r2,r3,r4,r5,r6⟩:=oab i b _ hb ho;exact(G4 r4).2
  .intro i s' r T' ho ht;obtain⟨b,hb,rfl,hm⟩:=tsb i T' ht;obtain⟨o1,r1,r2,r3,r4,r5,r6⟩:=oab i b _ hb ho;obtain⟨rfl,_⟩:=G4 r4;have h1:=(q.rep b _ r _ r1 hm).1;have h2:Fs i=φ b:=funext fun x=>propext (Fs_abs i b _ hb r1 rfl x)
   rw[h2];exact h1
  .rintro i j x hi hj ⟨b1,o1,g1,g2,g3⟩ ⟨b2,o2,k1,k2,k3⟩;rcases Nat.decEq i j with hij | hij
   .exfalso;have hne12:b1≠b2:=by rintro rfl;exact hij (uniq i j b1 g1 k1)
    exact apart b1 o1 b2 o2 hne12 g2 k2 (.inl (oro i b1 o1 hi g1 g2)) _ _ (htg b1 (mem g1)) (htg b2 (mem k1)) x g3 k3
   .exact hij
  .obtain⟨T',ht⟩:∃T',ts[i]? = some T':=⟨_,AAU (by rw[tsl];exact(List.getElem?_eq_some_iff.1 ho).1)⟩
   exact(hpm i L r T' ho ht).2 j M s' hM hj
 have hb0m:=htg b0 (mem hb0);obtain⟨o00,ho00⟩:∃o,objs[0]? = some o:=⟨_,AAU h0⟩
 obtain⟨o01,hg0,hro0,_,hr01,_,_⟩:=oab 0 b0 o00 hb0 ho00;have hv01:∀T,¬o01.void T:=fun T hw=>hroot o00 T ho00 ((CK hr01 T).1 hw)
 have key:∀x o1,H'.get x=some o1->(x=b0/\o1= .abs (.pack s) false)\/(x∉bs/\H.get x=some o1):=by
  intro x o1 hx
  by_cases hxb:x∈bs
  .obtain⟨i,hi,e⟩:=ACT hxb;have hi':bs[i]? = some x:=by rw[AAU hi,e]
   by_cases e0:i=0
   .subst e0;rw[hb0]at hi';cases hi'
    rw[hS.root b0 hb0]at hx;cases hx
    exact .inl ⟨rfl,rfl⟩
   .rw[hS.rest i x (by omega) hi']at hx;cases hx
  .exact .inr ⟨hxb,by rw[<-hS.GM x hxb];exact hx⟩
 have Fown:∀x,F x->¬base.K x:=by
  rintro x ⟨i,hi,b,o1,g1,g2,g3⟩;obtain⟨o,ho⟩:∃o,objs[i]? = some o:=⟨_,AAU hi⟩
  obtain⟨o2,r1,r2,r3,r4,r5,r6⟩:=oab i b o g1 ho;rw[g2]at r1;cases r1
  rcases g3 with⟨a,g3⟩ | ⟨a,g3,gv⟩
  .obtain⟨a',r,rfl⟩:=Ft a;exact(q.rep b a' r _ g2 (htg b (mem g1))).2 r2 x g3
  .rw[g3];exact h.own b o1 g2 r2 _ (htg b (mem g1)) gv
 have Fout:∀x,F x->∀y o2 T2,y∉bs->H.get y=some o2->Z y=some T2->((o2.isAbs=true/\φ y x)\/(o2.isAbs=false/\x=T2.c/\¬o2.void T2))->False:=by
  rintro x ⟨i,hi,b,o1,g1,g2,g3⟩ y o2 T2 hy hg hm hp;exact apart b o1 y o2 (by rintro rfl;exact hy (mem g1)) g2 hg (.inl (oro i b o1 hi g1 g2)) _ _ (htg b (mem g1)) hm x g3 hp
 have hroot2:F (tg b0).c:=⟨0,h0,root 0 b0 o01 hb0 hg0 (hv01 _)⟩;have cOf:∀y o2 T2,H.get y=some o2->Z y=some T2->¬o2.void T2->((o2.isAbs=true/\φ y T2.c)\/(o2.isAbs=false/\T2.c=T2.c/\¬o2.void T2)):=by
  intro y o2 T2 hg hm hv;cases hab:o2.isAbs
  .exact .inr ⟨rfl,rfl,hv⟩
  .obtain⟨a,r,rfl⟩:=Ft hab;exact .inl ⟨rfl,(Ga.JO _ _ _ _ (q.rep y a r T2 hg hm).1).1 (VL hv)⟩
 refine⟨⟨?_,?_,?_,?_,h.bound,h.size,h.below,h.out,h.os,?_,h.le,h.grow⟩,⟨AW.le_refl _,by rw[hS.next];exact AAT _,?_⟩⟩
 .intro x o1 hx T' hT';rcases key x o1 hx with⟨rfl,rfl⟩ | ⟨hxb,hx2⟩
  .obtain⟨o',r1,_⟩:=h.obj _ _ hg0 T' hT';exact⟨o',r1,.abs T' _ _ _⟩
  .exact h.obj x o1 hx2 T' hT'
 .intro x o1 hx hro T' hT' hv;rcases key x o1 hx with⟨rfl,rfl⟩ | ⟨hxb,hx2⟩
  .exact h.own _ _ hg0 hro0 T' hT' (hv01 _)
  .exact h.own x o1 hx2 hro T' hT' hv
 .intro x y o1 o2 hx hy T1 T2 h1 h2 v1 v2 hc hrr;rcases key x o1 hx with⟨rfl,rfl⟩ | ⟨hxb,hx2⟩
  .rcases key y o2 hy with⟨rfl,rfl⟩ | ⟨hyb,hy2⟩
   .rfl
   .exact h.inj _ y _ o2 hg0 hy2 T1 T2 h1 h2 (hv01 _) v2 hc (.inl hro0)
  .rcases key y o2 hy with⟨rfl,rfl⟩ | ⟨hyb,hy2⟩
   .exact h.inj x _ o1 _ hx2 hg0 T1 T2 h1 h2 v1 (hv01 _) hc (.inr hro0)
   .exact h.inj x y o1 o2 hx2 hy2 T1 T2 h1 h2 v1 v2 hc hrr
 .intro x hx;rw[hS.next]at hx;refine⟨?_,(h.fresh x hx).2⟩;have:x∉bs:=fun hm=>by
   have:=htg x hm;rw[(h.fresh x hx).2]at this;cases this
  rw[hS.GM x this];exact(h.fresh x hx).1
 .refine⟨fun x=>if x=b0 then F else φ x,?_,?_⟩
  .intro x a r T' hx hT';rcases key x _ hx with⟨rfl,e⟩ | ⟨hxb,hx2⟩
   .cases e
    rw[hb0m]at hT';cases hT'
    simp only[ACA];exact⟨hrep,fun _=>Fown⟩
   .have:x≠b0:=by rintro rfl;exact hxb (mem hb0)
    simp only[AAW this];exact q.rep x a r T' hx2 hT'
  .intro x a r T' hx hT' y o2 T2 hy hT2 hne2;rcases key x _ hx with⟨rfl,e⟩ | ⟨hxb,hx2⟩
   .cases e
    rcases key y o2 hy with⟨rfl,_⟩ | ⟨hyb,hy2⟩
    .exact absurd rfl hne2
    .simp only[ACA,AAW hne2];exact⟨fun hv2 e=>Fout _ e y o2 T2 hyb hy2 hT2 (cOf y o2 T2 hy2 hT2 hv2),fun hab z hz hz2=>Fout z hz y o2 T2 hyb hy2 hT2 (.inl ⟨hab,hz2⟩)⟩
   .have hxn:x≠b0:=by rintro rfl;exact hxb (mem hb0)
    rcases key y o2 hy with⟨rfl,e⟩ | ⟨hyb,hy2⟩
    .rw[hb0m]at hT2;cases hT2
     simp only[ACA,AAW hxn];exact⟨fun _ e=>Fout _ hroot2 x _ T' hxb hx2 hT' (.inl ⟨rfl,e⟩),fun _ z hz hz2=>Fout z hz2 x _ T' hxb hx2 hT' (.inl ⟨rfl,hz⟩)⟩
    .have hyn:y≠b0:=by rintro rfl;exact hyb (mem hb0)
     simp only[AAW hxn,AAW hyn];exact q.C3 x a r T' hx2 hT' y o2 T2 hy2 hT2 hne2
 .intro x hx hn;refine⟨hn,hS.GM x fun hm=>?_⟩;have:=htg x hm;rw[hn]at this;cases this
end
def Su(t:Tr Value)(l:AP):Tr Value:=Qw id t l
theorem No{Z:AW}{t:Tr Value}{n:Nat}{a:BE}(h:Gt Z t n a)(l:AP):Gt Z (Su t l) n a:=by
 refine⟨h.1,fun i=>?_⟩;unfold Su;rcases Jf id t l i with e | e
 .rw[e];exact .Bo _
 .rw[e];exact h.2 i
def Df:List Cs->Bool
 | []=>true
 | .E0 _ _::_=>false
 | _::r=>Df r
def fH:GJ->FuncId->Option (AP)
 | [],_=>none
 | p::r,f=>bif Nat.beq p.1 f then some p.2 else fH r f
def Iu(ks:GJ):Ae->Ae
 | ⟨fn,t,n,todo,ds,r,kd,rd⟩=>match fH ks fn with
  | some l=>⟨fn,Su t l,n,todo,ds,r,kd,rd⟩
  | none=>⟨fn,t,n,todo,ds,r,kd,rd⟩
def RE(ks:GJ):AP->AA->AA
 | [],H=>H
 | b::r,H=>match (RE ks r H).get b with
  | some (.loop ⟨st,pd,fn,t,n,ps,asg,bd,df⟩)=>match fH ks fn with
   | some l=>(RE ks r H).put b (.loop ⟨st,pd,fn,Su t l,n,ps,asg,bd,df⟩)
   | none=>RE ks r H
  | _=>RE ks r H
def GB(ks:GJ)(bs:AP)(c:BU):BU:=⟨c.fr,c.cs.map (Iu ks),RE ks bs c.H⟩
section
variable {X:Ctx}{base:Env}{W0:World}{Z:AW}{W:World}{N:Nat}
theorem N7{ks:GJ}:∀(bs:AP){H:AA},AH base W0 Z H W->AH base W0 Z (RE ks bs H) W
 | [],H,h=>h
 | b::r,H,h=>by
  have h1:=N7 r h (ks:=ks);unfold RE;split
  .rename_i st pd fn t n ps asg bd df hb;split
   .refine h1.swap hb (fun T o' _ ho=>?_) rfl rfl rfl (fun _ _ hv=>hv);cases ho with
    | loop _ a R ht hd=>exact .loop T ⟨st,pd,fn,_,n,ps,asg,bd,df⟩ a R (No ht _) hd
   .exact h1
  .exact h1
theorem Sr{H H':AA}{g:AP}{f:Ae}{f':Frame}(h:Ni X Z H g f f')(hd:Df f.todo=true):Ni X Z H' [] f f':=by
 cases h with
 | plain fn t n tm todo todo' ds ds' r kd rd rd' ht hi hdd hr=>exact .plain _ _ _ _ _ _ _ _ _ _ _ _ ht hi hdd hr
 | drawn=>cases hd
theorem mG{ks:GJ}{H H':AA}{g:AP}{f:Ae}{f':Frame}(h:Hi X Z H g f f')(hd:Df f.todo=true):Hi X Z H' [] (Iu ks f) f':=by
 cases h with
 | plain fn t n tm todo todo' ds ds' r kd rd rd' ht hi hdd hr=>
  unfold Iu;simp only;split
  .exact .plain _ _ _ _ _ _ _ _ _ _ _ _ (No ht _) hi hdd hr
  .exact .plain _ _ _ _ _ _ _ _ _ _ _ _ ht hi hdd hr
 | Ka=>cases hd
theorem P0{ks:GJ}{H H':AA}{g:AP}{l:List Ae}{l':List Frame}(h:EJ X Z H g l l')(hd:(l.all fun f=>Df f.todo)=true):EJ X Z H' [] (l.map (Iu ks)) l':=by
 induction h with
 | nil=>exact .nil
 | cons hf _ ih=>
  simp only[ABN,AAQ]at hd;exact .cons (g:=[]) (gs:=[]) (mG hf hd.1) (ih hd.2)
theorem kO{ks:GJ}{bs:AP}{c:BU}{Φ:Cy}(h1:Df c.fr.todo=true)(h2:(c.cs.all fun f=>Df f.todo)=true)(hr:BA X N (GB ks bs c) Φ):BA X N c Φ:=by
 intro base W0 hb hok hplan cs0 Z fr cs W hm;refine hr base W0 hb hok hplan cs0 Z fr cs W ?_;obtain⟨hH,hlaid,g,gs,hfr,hcs,hnd⟩:=hm;exact⟨N7 bs hH,hlaid,[],[],Sr hfr h1,P0 hcs h2,by simp⟩
end
def Stop.MP(X:Ctx)(ks:GJ)(S:Stop)(c:BU):Option BU:=
 match Eb X c with
 | some c1=>bif Df c1.fr.todo&&(c1.cs.all fun f=>Df f.todo)then
  (bif Nat.ble S.N (GB ks (S.ids c1) c1).H.next&&(S.ids (GB ks (S.ids c1) c1)).all (fun b=>Nat.blt b (GB ks (S.ids c1) c1).H.next)then
   yn S.N (S.Yy++S.ids (GB ks (S.ids c1) c1)) (S.ids (GB ks (S.ids c1) c1)) S.live (GB ks (S.ids c1) c1)else none)else none
 | none=>none
def VCt(X:Ctx)(pf:Pf)(f:FuncId)(ids:AP)(S:Stop)(ks:GJ)(Q:Bz)(R:Cy)(n:Nat):Cy:=
 Nat.rec (motive:=fun _=>Cy) (fun _=>False) (fun _ ih c=>match EV X f c with
  | some (v,H)=>Q v ((ids++Am 4 v).map H.get)
  | none=>bif S.here c then(match S.MP X ks c with
   | some c2=>R c2
   | none=>False)
   else HC X pf c ih) n
section
variable {P:Program}{fn:FuncId}{tm:BE}{k:List Item}{ds:List Deferred}{kd:CallKind}{rd:Option Nat}{cs:List Frame}{W:World}
end
section
variable {X:Ctx}{base:Env}{W0:World}{Z:AW}{H:AA}{W:World}
theorem Hi.parts{g:AP}{f:Ae}{f':Frame}(h:Hi X Z H g f f'):f'.fn=f.fn/\Ch Z f.defers f'.defers:=by
 cases h with
 | plain=>rename_i hd _;exact⟨rfl,hd⟩
 | Ka=>rename_i hd _;exact⟨rfl,hd⟩
theorem En.env(h:En X base W0){m0:AW}(hle:base.gN.le m0):En X ⟨base.K,m0⟩ W0:=by
 refine⟨h.1,?_⟩;intro f F hf;obtain⟨h1,h2⟩:=h.2 f F hf;refine⟨h1,fun Z H W args args' v H' hH hl ha hF=>?_⟩;have hH2:AH base W0 Z H W:=⟨hH.obj,hH.own,hH.inj,hH.fresh,hH.bound,hH.size,hH.below,hH.out,hH.os,(let ⟨φ,q⟩:=hH.abs;⟨φ,q.rep,q.C3⟩),AW.le_trans hle hH.le,hH.grow⟩;refine(h2 Z H W args args' v H' hH2 hl ha hF).mono fun e W' ⟨v',μ',a,b,c,d⟩=>⟨v',μ',a,?_,c,d⟩
 exact⟨b.obj,b.own,b.inj,b.fresh,b.bound,b.size,b.below,b.out,b.os,(let ⟨φ,q⟩:=b.abs;⟨φ,q.rep,q.C3⟩),AW.le_trans hH.le d.le,b.grow⟩
theorem AH.env(hH:AH base W0 Z H W){m0:AW}(hle:m0.le Z):AH ⟨base.K,m0⟩ W0 Z H W:=
 ⟨hH.obj,hH.own,hH.inj,hH.fresh,hH.bound,hH.size,hH.below,hH.out,hH.os,(let ⟨φ,q⟩:=hH.abs;⟨φ,q.rep,q.C3⟩),hle,hH.grow⟩
end
theorem oK{laid:DD}{N:Nat}{bs:AP}{nx k b:Nat}(h:b < N):HW laid N bs nx k b=NO laid N b:=Ki h
theorem mS{laid:DD}{N:Nat}{bs:AP}{nx k b:Nat}(h:N<=b)(h2:b < N+bs.length):HW laid N bs nx k b=bs[b - N]?:=by
 unfold HW;rw[Fu h,ABD (by omega)]
theorem nP{laid:DD}{N:Nat}{bs:AP}{nx k b:Nat}(h:N+bs.length<=b)(h2:b < N+bs.length+k):HW laid N bs nx k b=some (nx+(b - (N+bs.length))):=by
 unfold HW;rw[Fu (by omega),ABG (by omega),AAi,ACS (by omega)];simp only[AA8,AAN];omega
theorem Ar{P:Program}{laid:DD}{fs:List (FuncId × DL)}(hfs:CQ P laid fs)(hm:P.follows .mixedOrders=true){f:FuncId}{n N:Nat}(he:entry P f=some (n,BN P f []))(hN:(laid.all fun p=>Nat.blt p.1 N)=true){muts:List Bool}{G:AL->Ay->GT}(hG:∀argsc objs x,(G argsc objs).run=some x->(∀(j:Nat)(o:AJ),objs[j]? = some o->GH muts j=true->o.ro=false)->
  argsc.length<=n/\AZ (BY P laid fs) (N+objs.length) (fun b=>N<=b/\b < N+objs.length) f (fun v Hf=>D1 laid N objs.length muts x v Hf) (Du f (CP 0 argsc .leaf) n (BN P f []) (DT ⟨.leaf,N⟩ (Eg muts 0 objs)))):
 CH P laid f (Ab laid N muts G):=by
 refine⟨⟨n,_,he⟩,?_⟩;intro base W0 Z H W args args' v H' hW hH hl ha hF;unfold Ab at hF;generalize hbs:DE H N 200 (args.flatMap (Am 4)) []=bs at hF;have hreach:=TP hH (N:=N) 200 (args.flatMap (Am 4)) [] (Fb ha) ⟨AA3,fun b hb=>by cases hb⟩;rw[hbs]at hreach;obtain⟨hnd,hbs2⟩:=hreach;split at hF
 rotate_left
 .cases hF
 rename_i argsc objs h1 h2;cases hmu:I0 muts H 0 bs
 .simp only[hmu,AAR]at hF;cases hF
 simp only[hmu,AAO]at hF;split at hF
 rotate_left
 .cases hF
 rename_i x hx;unfold To at hF;split at hF
 rotate_left
 .cases hF
 rename_i va Hb e1 e2;split at hF
 rotate_left
 .cases hF
 rename_i H2 e3;cases hF
 obtain⟨ol,oget⟩:=U3 h2;obtain⟨n1,n2,n3,n4⟩:=V7 e3;obtain⟨b1,b2,b3,b4⟩:=SV e2 hnd;have hbsAt:∀(j b:Nat),bs[j]? = some b->N<=b/\∃T,Z b=some T:=fun j b hb=>hbs2 b (AA1 hb)
 have hro:∀(j:Nat)(o:AJ),objs[j]? = some o->GH muts j=true->o.ro=false:=by
  intro j o ho hmj;have hj:j < bs.length:=by
   rcases AAt j objs.length with h | h
   .omega
   .rw[AAq h]at ho;cases ho
  obtain⟨p,p1,q1,q2,q3⟩:=oget j bs[j] (AAU hj);obtain⟨p',r1,r2⟩:=Pq hmu j bs[j] (AAU hj) (by rw[AAj];exact hmj);rw[q1]at r1;cases r1
  rw[ho]at q3;cases q3
  rw[(Er q2).1];exact r2
 obtain⟨g1,g2⟩:=hG argsc objs x hx hro;have hout:∀b i,Gf laid N bs b=some i->(b < N/\laid.any (fun p=>Nat.beq b p.1)=true/\i=b)\/(N<=b/\bs[b - N]? = some i):=by
  intro b i hb;rcases AAt b N with h | h
  .rw[Ki h]at hb;obtain⟨rfl,_,h3⟩:=Q0 hb;exact .inl ⟨h,h3,rfl⟩
  .rw[Fu h]at hb;exact .inr ⟨h,hb⟩
 have hdomb:∀b i,Gf laid N bs b=some i->∃T,Z i=some T:=by
  intro b i hb;rcases hout b i hb with⟨_,h4,rfl⟩ | ⟨_,h4⟩
  .obtain⟨T,h3,_⟩:=hl i h4;exact⟨T,h3⟩
  .exact(hbsAt _ _ h4).2
 have hinj:∀b1 b2 i,Gf laid N bs b1=some i->Gf laid N bs b2=some i->b1=b2:=by
  intro c1 c2 i q1 q2;rcases hout c1 i q1 with⟨a1,_,a3⟩ | ⟨a1,a2⟩<;>rcases hout c2 i q2 with⟨d1,_,d3⟩ | ⟨d1,d2⟩
  .omega
  .have:=(hbsAt _ _ d2).1;omega
  .have:=(hbsAt _ _ a2).1;omega
  .have:=bh hnd a2 d2;omega
 have hiN:∀b i,Gf laid N bs b=some i->i < H.next:=fun b i hb=>let ⟨_,hT⟩:=hdomb b i hb;hH.L9 hT
 have hHn:(DT ⟨.leaf,N⟩ (Eg muts 0 objs)).next=N+bs.length:=by rw[Kr,MZ,ol]
 have hlt:∀b i,Gf laid N bs b=some i->b < (DT ⟨.leaf,N⟩ (Eg muts 0 objs)).next:=by
  intro b i hb;rw[hHn];rcases hout b i hb with⟨h4,_,_⟩ | ⟨h4,h5⟩
  .omega
  .have:b - N < bs.length:=by
    rcases AAt (b - N) bs.length with h | h
    .exact h
    .rw[AAq h]at h5;cases h5
   omega
 have hHg:∀b o,(DT ⟨.leaf,N⟩ (Eg muts 0 objs)).get b=some o->N<=b/\∃o0,objs[b - N]? = some o0/\o=(bif GH muts (b - N)then o0 else IY o0):=by
  intro b o hb;rw[D5]at hb;simp only at hb
  by_cases h4:b < N
  .rw[AAZ h4]at hb;cases hb
  .rw[AAW h4,NW,AAj]at hb;cases hq:objs[b - N]? with
   | none=>rw[hq]at hb;cases hb
   | some o0=>rw[hq]at hb;simp only[AA8,AAN]at hb;exact⟨by omega,o0,rfl,hb.symm⟩
 have hroV:∀b o,(DT ⟨.leaf,N⟩ (Eg muts 0 objs)).get b=some o->o.ro=false->GH muts (b - N)=true:=by
  intro b o hb hr;obtain⟨h4,o0,h5,rfl⟩:=hHg b o hb;cases hmm:GH muts (b - N)
  .rw[hmm]at hr;simp only[AAR]at hr;have hj:b - N < bs.length:=by
    rcases AAt (b - N) objs.length with h | h
    .omega
    .rw[AAq h]at h5;cases h5
   obtain⟨p,p1,q1,q2,q3⟩:=oget (b - N) _ (AAU hj);rw[h5]at q3;cases q3
   have:=(N0 (WQ (fun _ _ h=>YE h) q2)).2;rw[hr]at this;cases this
  .rfl
 refine xX (X:=BY P laid fs) (fun b W0 hW=>hfs.Hp b W0 hW) (Gq hm rfl) hW hH hl he (Hc:=DT ⟨.leaf,N⟩ (Eg muts 0 objs)) (argsc:=argsc) (ρ:=Gf laid N bs) g1 (G9 (PM (fun _ _ h=>YE h) 6) _ _ h1) ha hlt hdomb hinj
  (by rw[n1,b1];omega) (fun g hg=>?_) (fun b o hb=>?_) (fun i hi hno=>?_) (fun i hi=>?_) ?_
 .have hg:laid.any (fun p=>Nat.beq g p.1)=true:=hg;have hgN:g < N:=by
   obtain⟨p,hp1,hp2⟩:=List.any_eq_true.1 hg;have:=List.all_eq_true.1 hN p hp1;rw[AAP hp2];exact VC this
  rw[Ki hgN];unfold NO;rw[show Nat.blt g N=true from AAS hgN,hg];rfl
 .obtain⟨h4,o0,h5,rfl⟩:=hHg b o hb;have hj:b - N < bs.length:=by
   rcases AAt (b - N) objs.length with h | h
   .omega
   .rw[AAq h]at h5;cases h5
  obtain⟨p,p1,q1,q2,q3⟩:=oget (b - N) _ (AAU hj);rw[h5]at q3;cases q3
  have hinv:=WQ (τ:=Gf laid N bs) (fun _ _ h=>YE h) q2;refine⟨bs[b - N],p,by rw[Fu h4];exact AAU hj,q1,?_⟩;cases hmm:GH muts (b - N)
  .exact .inr ⟨(N0 hinv).2,(N0 hinv).1⟩
  .exact .inl hinv
 .rw[n2 i (by rw[b1];exact hi)]
  by_cases hi2:i∈bs
  .obtain⟨j,hj,hje⟩:=ACT hi2;have hjb:bs[j]? = some i:=by rw[AAU hj,hje]
   refine b3 j i hjb ?_;cases hmm:GH muts (0+j)
   .rfl
   .exfalso;rw[AAj]at hmm;obtain⟨p,p1,q1,q2,q3⟩:=oget j i hjb;have hg:(DT ⟨.leaf,N⟩ (Eg muts 0 objs)).get (N+j)=some p1:=by
     rw[D5];simp only;rw[AAW (by omega),NW,AAj,show N+j - N=j by omega,q3];simp only[AA8,hmm,AAO]
    exact hno (N+j) p1 hg (hro j p1 q3 hmm) (by rw[Fu (by omega),show N+j - N=j by omega];exact hjb)
  .exact b2 i hi2
 .rw[n1,b1]at hi;rw[n4 i (by rw[b1];exact hi)];have hge:H.next<=i:=by omega
  have hnb:i∉bs:=by
   intro hb;obtain⟨_,T,hT⟩:=hbs2 i hb;have:=hH.L9 hT;omega
  rw[b2 i hnb];exact(hH.fresh i hge).1
 .rw[hHn,<-ol];refine(g2.mono fun vc Hf ⟨ns,m1,m2,m3,m4,m5,m6⟩=>?_).sub fun b hb=>⟨bs[b - N]'(by omega),by rw[Fu hb.1];exact AAU _⟩
  have hcomp:∀c r,D1.J0 laid N objs.length ns c=some r->(if r < N+objs.length then Gf laid N bs r else(posOf r ns).map (H.next+·))=HW laid N bs H.next x.news.length c:=by
   intro c r hc;unfold D1.J0 at hc
   by_cases c1:c < N
   .rw[AAZ c1]at hc;obtain⟨rfl,_,_⟩:=Q0 hc;rw[AAZ (by omega),Ki c1,oK c1]
   .rw[AAW c1]at hc
    by_cases c2:c < N+objs.length
    .rw[AAZ c2]at hc;cases hc
     rw[AAZ c2,Fu (by omega),mS (by omega) (by omega)]
    .rw[AAW c2]at hc;have hj:c - (N+objs.length) < ns.length:=by
      rcases AAt (c - (N+objs.length)) ns.length with h | h
      .exact h
      .rw[AAq h]at hc;cases hc
     have hge:=m2 r (AA1 hc);rw[AAW (by omega),KG m1 hc,nP (by omega) (by omega),ol];rfl
  refine⟨fun b=>if b < N+objs.length then Gf laid N bs b else(posOf b ns).map (H.next+·),?_,?_,?_,?_,?_⟩
  .intro c1 c2 i q1 q2
   by_cases d1:c1 < N+objs.length<;>by_cases d2:c2 < N+objs.length
   .simp only[d1,d2,ACA]at q1 q2;exact hinj c1 c2 i q1 q2
   .simp only[d1,d2,ACA,ACv]at q1 q2;obtain⟨j,_,rfl⟩:=Option.map_eq_some_iff.1 q2;have:=hiN _ _ q1;omega
   .simp only[d1,d2,ACA,ACv]at q1 q2;obtain⟨j,_,rfl⟩:=Option.map_eq_some_iff.1 q1;have:=hiN _ _ q2;omega
   .simp only[d1,d2,ACv]at q1 q2;obtain⟨j1,w1,w2⟩:=Option.map_eq_some_iff.1 q1;obtain⟨j2,w3,w4⟩:=Option.map_eq_some_iff.1 q2;have:j1=j2:=by omega
    subst this;have:=MX w1;rw[MX w3]at this;cases this;rfl
  .intro b hb;rw[hHn,<-ol]at hb;simp only[hb,ACA]
  .intro b i hb hge;rw[hHn,<-ol]at hge;simp only[show ¬b < N+objs.length by omega,ACv]at hb;obtain⟨j,w1,rfl⟩:=Option.map_eq_some_iff.1 hb;have:=MX w1;have hj:j < ns.length:=by
    rcases AAt j ns.length with h | h
    .exact h
    .rw[AAq h]at this;cases this
   rw[n1,b1];omega
  .intro i o hi hc
   by_cases hge:H.next<=i
   .have hiu:i < H.next+x.news.length:=by
     rcases AAt i (H.next+x.news.length)with h | h
     .exact h
     .rw[n4 i (by rw[b1];exact h)]at hi;have hnb:i∉bs:=by
       intro hb;obtain⟨_,T,hT⟩:=hbs2 i hb;have:=hH.L9 hT;omega
      rw[b2 i hnb,(hH.fresh i hge).1]at hi;cases hi
    obtain⟨o0,w1,w2,w3⟩:=n3 i o (by rw[b1];exact hge) (by rw[b1];exact hiu) hi;rw[b1]at w1;have hj:i - H.next < ns.length:=by omega
    have hb:=AAU hj;obtain⟨o1,y1,y2⟩:=m5 (i - H.next) _ o0 hb w1;have hge2:=m2 _ (AA1 hb);have hro1:BF (fun b=>if b < N+objs.length then Gf laid N bs b else(posOf b ns).map (H.next+·)) o1=some o:=by
     rw[SW (υ:=HW laid N bs H.next x.news.length) hcomp y1];exact w2
    refine⟨ns[i - H.next],o1,?_,y2,hro1,by rw[<-(Er hro1).1];exact w3⟩;simp only[show ¬ns[i - H.next] < N+objs.length by omega,ACv];rw[KG m1 hb];show some (H.next+(i - H.next))=some i
    congr 1;omega
   .rcases hc with hc | ⟨b,o0,q1,q2,q3⟩
    .exact absurd hc hge
    .have hmm:=hroV b o0 q1 q2;obtain⟨q4,p0,q5,q6⟩:=hHg b o0 q1;rw[Fu q4]at q3;rw[n2 i (by rw[b1];omega)]at hi;obtain⟨o2,w1,w2,w3⟩:=b4 (b - N) i o q3 (by rw[AAj];exact hmm) hi;have hj:b - N < objs.length:=by
      rcases AAt (b - N) objs.length with h | h
      .exact h
      .rw[AAq h]at q5;cases q5
     obtain⟨o1,y1,y2⟩:=m6 (b - N) o2 hj hmm w1;rw[show N+(b - N)=b by omega]at y2;have hro1:BF (fun b=>if b < N+objs.length then Gf laid N bs b else(posOf b ns).map (H.next+·)) o1=some o:=by
      rw[SW (υ:=HW laid N bs H.next x.news.length) hcomp y1];exact w2
     refine⟨b,o1,?_,y2,hro1,by rw[<-(Er hro1).1];exact w3⟩;simp only[show b < N+objs.length by omega,ACA];rw[Fu q4];exact q3
  .rw[show EI _ vc=EI (HW laid N bs H.next x.news.length) x.v from NK hcomp 6 _ _ m4];exact e1
def R8:AP->AA->AA
 | [],H=>H
 | b::r,H=>R8 r (H.del b)
theorem Sy:∀(r:AP)(H:AA),(R8 r H).next=H.next
 | [],_=>rfl
 | b::r,H=>Sy r (H.del b)
theorem RY:∀(r:AP)(H:AA)(x:Nat),(R8 r H).get x=if x∈r then none else H.get x
 | [],H,x=>by simp[R8]
 | b::r,H,x=>by
  rw[R8,RY r (H.del b) x,AA.BK]
  by_cases h1:x∈r
  .simp[h1]
  .by_cases h2:x=b
   .simp[h2]
   .simp[h1,h2]
def J2(s:Pk):AP->AA->AA
 | [],H=>H
 | b::r,H=>(R8 r H).put b (.abs (.pack s) false)
theorem Ez{s:Pk}{bs:AP}{H:AA}(hnd:bs.Nodup):yC H s bs (J2 s bs H):=by
 cases bs with
 | nil=>exact⟨rfl,fun b h=>(by cases h),fun i b _ h=>(by cases h),fun x _=>rfl⟩
 | cons b r=>
  have hbr:b∉r:=(List.nodup_cons.1 hnd).1;refine⟨?_,?_,?_,?_⟩
  .show(R8 r H).next=H.next;exact Sy r H
  .intro b' hb';cases hb'
   show((R8 r H).put b _).get b=_;rw[AA.AQ,AAZ rfl]
  .intro i b' hi hb';cases i with
   | zero=>omega
   | succ i=>
    have hm:b'∈r:=AA1 (i:=i) hb';show((R8 r H).put b _).get b'=_;rw[AA.AQ,AAW (by rintro rfl;exact hbr hm),RY,AAZ hm]
  .intro x hx;simp only[AAw,ACc]at hx;show((R8 r H).put b _).get x=_;rw[AA.AQ,AAW hx.1,RY,AAW hx.2]
def Ig:AJ->Nat->Prop
 | .cells cs _ _,c=>c∈cs.flatMap (Am 4)
 | .vec k l _,c=>c∈(Ac k l).flatMap (Am 4)
 | _,_=>False
inductive Ia(H:AA)(rs:AP):Nat->Prop where
 | here {b:Nat} (h:b∈rs):Ia H rs b
 | next {b c:Nat} {o:AJ} (hb:Ia H rs b) (ho:H.get b=some o) (hc:Ig o c):Ia H rs c
theorem Ia.Yk{base:Env}{W0 W:World}{Z:AW}{H:AA}(hH:AH base W0 Z H W){rs:AP}(hrs:∀b∈rs,∃T,Z b=some T){c:Nat}(h:Ia H rs c):∃T,Z c=some T:=by
 induction h with
 | here h=>exact hrs _ h
 | next hb ho hc ih=>
  rename_i b c o;obtain⟨T,hT⟩:=ih;obtain⟨o',_,hr⟩:=hH.obj b _ ho T hT;cases o with
  | cells cs e ro=>
   cases hr with
   | cells _ _ _ arr t lo hi he hcl hr hf=>exact Fb hcl c hc
  | vec k l ro=>
   cases hr with
   | vec _ _ _ _ hq=>
    cases hq with
    | cells _ _ _ arr t lo hi he hcl hr hf=>exact Fb hcl c hc
   | D7 _ _ _ _ _ _=>simp[Ig,Ac]at hc
  | _=>exact hc.elim
inductive Ho(D:Nat->Prop)(v:Value):AA->AA->Prop where
 | refl (H:AA):Ho D v H H
 | step {H H2:AA} (s:Pk) (objs:Ay) (bs rs:AP) (hr:Bh s objs) (hne:objs≠[]) (hlen:bs.length=objs.length) (hnd:bs.Nodup) (hrs:∀b∈rs,b∈Am 4 v\/D b)
  (hreach:∀b∈bs,b∈DE H 0 200 rs []) (hobj:∀(i b:Nat)(o:AJ),bs[i]? = some b->objs[i]? = some o->∃o1,H.get b=some o1/\o1.ro=false/\o1.Kl=true/\BF (R7 bs (DO s)) o=some o1) (hroot:∀o T,objs[0]? = some o->¬o.void T)
  (k:Ho D v (J2 s bs H) H2):Ho D v H H2
 | qv {H H2:AA} (s:Pk) (objs:Ay) (bs rs:AP) (hr:Bh s objs) (hne:objs≠[]) (hlen:bs.length=objs.length) (hnd:bs.Nodup) (hrs:∀b∈rs,b∈Am 4 v\/D b)
  (hreach:∀b∈bs,Ia H rs b) (hobj:∀(i b:Nat)(o:AJ),bs[i]? = some b->objs[i]? = some o->∃o1,H.get b=some o1/\o1.ro=false/\o1.Kl=true/\BF (R7 bs (DO s)) o=some o1) (hroot:∀o T,objs[0]? = some o->¬o.void T)
  (k:Ho D v (J2 s bs H) H2):Ho D v H H2
theorem Ho.ok{D:Nat->Prop}{v:Value}{H H2:AA}(h:Ho D v H H2){base:Env}{W0 W:World}{Z:AW}{v':Value}(hD:∀b,D b->∃T,base.gN b=some T)(hv:AF Z v v'):AH base W0 Z H W->AH base W0 Z H2 W:=by
 induction h with
 | refl H=>exact fun h=>h
 | step s objs bs rs hr hne hlen hnd hrs hreach hobj hroot k ih=>
  intro hH;refine ih (hH.shut hr hnd hlen hne (fun b hb=>?_) hobj (Ez hnd) hroot).1;have hr2:=TP hH (N:=0) 200 rs [] (fun b hb=>?_) ⟨AA3,fun b hb=>by cases hb⟩
  .exact(hr2.2 b (hreach b hb)).2
  .rcases hrs b hb with hb | hb
   .exact Fb (Af.cons hv .nil) b (by simpa using hb)
   .obtain⟨T,hT⟩:=hD b hb;exact⟨T,hH.le b T hT⟩
 | qv s objs bs rs hr hne hlen hnd hrs hreach hobj hroot k ih=>
  intro hH;refine ih (hH.shut hr hnd hlen hne (fun b hb=>Ia.Yk hH (fun c hc=>?_) (hreach b hb)) hobj (Ez hnd) hroot).1;rcases hrs c hc with hc | hc
  .exact Fb (Af.cons hv .nil) c (by simpa using hc)
  .obtain⟨T,hT⟩:=hD c hc;exact⟨T,hH.le c T hT⟩
section
variable {X:Ctx}{N:Nat}{D:Nat->Prop}{f:FuncId}{Q Q':H5}
theorem AZ.opened{c:BU}{b:Nat}{s:Pk}{ro:Bool}(hD:D b)(hb:c.H.get b=some (.abs (.pack s) ro))(hp:∀ops p k,c.fr.todo≠ .E0 ops p::k)(h:∀objs,Bh s objs->∃H',EU c.H b ro objs H' (DO s)/\AZ X N D f Q ⟨c.fr,c.cs,H'⟩):AZ X N D f Q c:=by
 intro base W0 hb0 hDm hok hplan cs0 Z fr cs W hm;obtain⟨T,hT⟩:=hDm b hD;obtain⟨hH,hlaid,g,gs,hfr,hcs,hnd⟩:=hm;obtain⟨objs,hr,ho⟩:=hH.opened hb (hH.le b T hT);obtain⟨H',hO,hrun⟩:=h objs hr;obtain⟨μ',hH',hE,_⟩:=ho H' hO;refine hrun base W0 hb0 hDm hok hplan cs0 μ' fr cs W ⟨hH',hlaid.mono hE.le,g,gs,?_,hcs.mono (hE.keeps _),hnd⟩;obtain⟨f0,cs1,H1⟩:=c;cases hfr with
 | plain fn t n tm todo todo' ds ds' r kd rd rd' ht hi hd hr=>exact .plain fn t n tm todo todo' ds ds' r kd rd rd' (ht.mono hE.le) (hi.mono hE.le) (hd.mono hE.le) (hr.mono hE.le)
 | drawn fn t n tm ops BP idx D G k k' ds ds' kd rd rd' hD hk hd hr=>exact absurd rfl (hp ops BP k)
theorem AZ.known{c:BU}{N2:Nat}{D2:Nat->Prop}(h:AZ X N2 D2 f Q c)(hN:c.H.next<=N2)(hD2:∀b,D2 b->∃rs,(∀r∈rs,D r)/\Ia c.H rs b):AZ X N D f Q c:=by
 intro base W0 hb0 hDm hok hplan cs0 Z fr cs W hm;have hH:=hm.heap;obtain⟨c',v,H,v1,H1,h1,h3,μ1,fr1,cs1,W1,s1,m1,h2⟩:=h ⟨base.K,Z⟩ W0 (fun b T hT=>ABR (hH.L9 hT) hN) (fun b hb=>by
  obtain⟨rs,k1,k2⟩:=hD2 b hb;exact k2.Yk hH fun r hr=>by obtain⟨T,hT⟩:=hDm r (k1 r hr);exact⟨T,hH.le r T hT⟩) (hok.env hH.le) hplan cs0 Z fr cs W ⟨hH.env (AW.le_refl _),hm.laid,hm.YC⟩
 have up:∀{ν:AW}{H:AA}{W:World},AH ⟨base.K,Z⟩ W0 ν H W->AH base W0 ν H W:=fun g=>⟨g.obj,g.own,g.inj,g.fresh,g.bound,g.size,g.below,g.out,g.os,(let ⟨φ,q⟩:=g.abs;⟨φ,q.rep,q.C3⟩),AW.le_trans hH.le g.le,g.grow⟩
 refine⟨c',v,H,v1,H1,h1,h3,μ1,fr1,cs1,W1,s1,⟨up m1.heap,m1.laid,m1.YC⟩,fun v' hv hH2=>?_⟩;obtain⟨μ2,g0,g1,g2⟩:=h2 v' hv (hH2.env m1.heap.le);exact⟨μ2,g0,up g1,g2⟩
theorem AZ.shut{c:BU}(h:AZ X N D f Q c)(hq:∀v H,Q v H->∃H2,Ho D v H H2/\Q' v H2):AZ X N D f Q' c:=by
 intro base W0 hb0 hDm hok hplan cs0 Z fr cs W hm;obtain⟨c',v,H,v1,H1,h1,h3,μ1,fr1,cs1,W1,s1,m1,h2⟩:=h base W0 hb0 hDm hok hplan cs0 Z fr cs W hm;obtain⟨H2,k1,k2⟩:=hq v1 H1 h3;refine⟨c',v,H,v1,H2,h1,k2,μ1,fr1,cs1,W1,s1,m1,fun v' hv hH=>?_⟩;obtain⟨μ2,g0,g1,g2⟩:=h2 v' hv hH;exact⟨μ2,g0,k1.ok hDm g2 g1,g2⟩
theorem AZ.tell{c:BU}(h:AZ X N D f Q c)(hq:∀v H,Q v H->∃v2 H2,(∀(base:Env)(W0:World)(Z:AW)(W:World)(v':Value),(∀b,D b->∃T,Z b=some T)->AF Z v v'->AH base W0 Z H W->∃μ2,Z.le μ2/\AH base W0 μ2 H2 W/\AF μ2 v2 v')/\Q' v2 H2):AZ X N D f Q' c:=by
 intro base W0 hb0 hDm hok hplan cs0 Z fr cs W hm;obtain⟨c',v,H,v1,H1,h1,h3,μ1,fr1,cs1,W1,s1,m1,h2⟩:=h base W0 hb0 hDm hok hplan cs0 Z fr cs W hm;obtain⟨v2,H2,k1,k2⟩:=hq v1 H1 h3;refine⟨c',v,H,v2,H2,h1,k2,μ1,fr1,cs1,W1,s1,m1,fun v' hv hH=>?_⟩;obtain⟨μ2,g0,g1,g2⟩:=h2 v' hv hH;obtain⟨μ3,f0,f1,f2⟩:=k1 base W0 μ2 W1 v' (fun b hb=>by obtain⟨T,hT⟩:=hDm b hb;exact⟨T,g1.le b T hT⟩) g2 g1;exact⟨μ3,AW.le_trans g0 f0,f1,f2⟩
theorem AZ.told{c:BU}(h:AZ X N D f Q c)(hq:∀v H,Q v H->∃H2,(∀(base:Env)(W0:World)(Z:AW)(W:World),AH base W0 Z H W->AH base W0 Z H2 W)/\Q' v H2):AZ X N D f Q' c:=
 h.tell fun v H q=>let ⟨H2,k1,k2⟩:=hq v H q;⟨v,H2,fun base W0 Z W _ _ hv hH=>⟨Z,AW.le_refl _,k1 base W0 Z W hH,hv⟩,k2⟩
theorem AZ.row{c:BU}{k:EK}(h:AZ X N D f Q c)(hq:∀v H,Q v H->∃b n l,v= .slice (some ⟨b,0,none⟩) n (AT+n)/\H.get b=some (.cells (Ac k l) k.length false)/\Q' (.slice (some ⟨b,0,some 0⟩) n AT) (H.put b (.vec k l false)))(hk0:k.length≠0:=by decide):AZ X N D f Q' c:=by
 intro base W0 hb0 hDm hok hplan cs0 Z fr cs W hm;obtain⟨c',v,H,v1,H1,h1,h3,μ1,fr1,cs1,W1,s1,m1,h2⟩:=h base W0 hb0 hDm hok hplan cs0 Z fr cs W hm;obtain⟨b,n,l,rfl,hg,k2⟩:=hq v1 H1 h3;refine⟨c',v,H,_,_,h1,k2,μ1,fr1,cs1,W1,s1,m1,fun v' hv hH=>?_⟩;obtain⟨μ2,g0,g1,g2⟩:=h2 v' hv hH;have g3:=g1.JN hg;exact⟨μ2,g0,g3,Wm (j:=0) hk0 (AAT _) (fun T hT=>g3.elem (by rw[AA.AQ,AAZ rfl]) hT) (by rw[ABy];exact MD g2)⟩
end
end Go.AB
namespace Go.AB
end Go.AB
namespace Go.AB
def Dv(H:AA):Ay->AA
 | []=>H
 | o::r=>Dv (H.alloc o) r
theorem KB:∀(l:Ay)(H:AA),(Dv H l).next=H.next+l.length
 | [],_=>rfl
 | o::r,H=>by rw[Dv,KB r];show H.next+1+r.length=_;simp;omega
theorem Hz:∀(l:Ay)(H:AA)(x:Nat),(Dv H l).get x=if H.next<=x then(match l[x - H.next]? with | some o=>some o | none=>H.get x)else H.get x
 | [],H,x=>by simp[Dv]
 | o::r,H,x=>by
  rw[Dv,Hz r];show(if H.next+1<=x then _ else _)=_
  by_cases h1:H.next+1<=x
  .rw[AAZ h1,AAZ (by omega)];show(match r[x - (H.next+1)]? with | some o=>some o | none=>(H.alloc o).get x)=_;have e:x - H.next=(x - (H.next+1))+1:=by omega
   rw[e,ABK];have e2:(H.alloc o).get x=H.get x:=by rw[AA.AN,AAW (by omega)]
   rw[e2]
  .rw[AAW h1,AA.AN]
   by_cases h2:x=H.next
   .subst h2;simp
   .rw[AAW h2,AAW (by omega)]
theorem TC{H:AA}{b:Nat}{ro:Bool}{o o1:AJ}{ps ps1:Ay}(hlt:b < H.next)(hf:∀x,H.next<=x->H.get x=none)(hl:ps1.length=ps.length)(h0:BF (Hg b H.next (ps.length+1)) (Ul ro o)=some o1)(hps:∀(i:Nat)(p:AJ),ps[i]? = some p->∃p1,ps1[i]? = some p1/\BF (Hg b H.next (ps.length+1)) (Ul ro p)=some p1):EU H b ro (o::ps) (Dv (H.put b o1) ps1):=by
 have hnx:(H.put b o1).next=H.next:=rfl;refine⟨by rw[KB,hnx,hl];simp,fun x hx hx2=>?_,fun x hx=>?_,fun i p hp=>?_⟩
 .rw[Hz,hnx,AAW (by omega),AA.AQ,AAW hx]
 .rw[KB,hnx]at hx;rw[Hz,hnx,AAZ (by omega),AAq (by omega)];show(H.put b o1).get x=none;rw[AA.AQ,AAW (by omega)];exact hf x (by omega)
 .cases i with
  | zero=>
   cases hp
   refine⟨o1,h0,?_⟩;show(Dv (H.put b o1) ps1).get b=_;rw[Hz,hnx,AAW (by omega),AA.AQ,AAZ rfl]
  | succ i=>
   obtain⟨p1,h1,h2⟩:=hps i p hp;refine⟨p1,h2,?_⟩;have e:CN b H.next (i+1)=H.next+i:=by unfold CN;rw[AAW (by omega)];rfl
   rw[e,Hz,hnx,AAZ (by omega),show H.next+i - H.next=i by omega,h1]
def VCw(X:Ctx)(pf:Pf)(f:FuncId)(ids:AP)(S S2:Stop)(ks:GJ)(Q:Bz)(R R2:Cy)(n:Nat):Cy:=
 Nat.rec (motive:=fun _=>Cy) (fun _=>False) (fun _ ih c=>match EV X f c with
  | some (v,H)=>Q v ((ids++Am 4 v).map H.get)
  | none=>bif S.here c then(match S.MP X ks c with
   | some c2=>R c2
   | none=>False)
   else bif S2.here c then(match S2.MP X ks c with
    | some c2=>R2 c2
    | none=>False)
   else HC X pf c ih) n
def Tj(b:Nat)(c:BU):Bool:=match c.fr.todo with
 | _:: .inBlock k::_=>Nat.beq k b
 | _=>false
def VCb(X:Ctx)(pf:Pf)(f:FuncId)(ids:AP)(S:Stop)(b:Nat)(S2:Stop)(b2:Nat)(ks:GJ)(Q:Bz)(R R2:Cy)(n:Nat):Cy:=
 Nat.rec (motive:=fun _=>Cy) (fun _=>False) (fun _ ih c=>match EV X f c with
  | some (v,H)=>Q v ((ids++Am 4 v).map H.get)
  | none=>bif S.here c&&Tj b c then(match S.MP X ks c with
   | some c2=>R c2
   | none=>False)
   else bif S2.here c&&Tj b2 c then(match S2.MP X ks c with
    | some c2=>R2 c2
    | none=>False)
   else HC X pf c ih) n
theorem Mw{X:Ctx}{S:Stop}{ks:GJ}{M:Nat}(hM:M<=S.N)(hl:(X.laid.all fun p=>Nat.blt p.1 S.N)=true){c c2:BU}{Φ:Cy}(hc:S.MP X ks c=some c2)(h:BA X M c2 Φ):BA X M c Φ:=by
 unfold Stop.MP at hc;split at hc
 .rename_i c1 h1;cases hd:(Df c1.fr.todo&&(c1.cs.all fun f=>Df f.todo))
  .simp only[hd,AAR]at hc;cases hc
  .simp only[hd,AAO]at hc;simp only[AAQ]at hd;cases hb:(Nat.ble S.N (GB ks (S.ids c1) c1).H.next&&(S.ids (GB ks (S.ids c1) c1)).all (fun b=>Nat.blt b (GB ks (S.ids c1) c1).H.next))
   .simp only[hb,AAR]at hc;cases hc
   .simp only[hb,AAO]at hc;have hr:=XY (X:=X) hM hl hc h;exact BA.bind (Reach.Td ((Rv.step h1).reach (Φ:=fun c'=>c'=c1) rfl)) fun c' e=>e ▸ kO hd.1 hd.2 hr
 .cases hc
def Vs(X:Ctx)(c:BU):Option (Bool × BU × BU):=
 match c with
 | ⟨⟨fn,t,n,.Ks ops (o::l)::k,ds,false,kd,rd⟩,cs,H⟩=>
  match o.op with
  | .binOp .eql ty x y _=>match Bs X t x,Bs X t y,X.P.underlying ty with
   | .slice (some ⟨_,_,some _⟩) m _,.slice none _ _,some (.slice _)=>match DK ops o t,CL ⟨fn,t,n,.Ks ops (o::l)::k,ds,false,kd,rd⟩ (.bool true),CL ⟨fn,t,n,.Ks ops (o::l)::k,ds,false,kd,rd⟩ (.bool false)with
    | some true,some ft,some ff=>some (Nat.blt 0 m,⟨ft,cs,H⟩,⟨ff,cs,H⟩)
    | _,_,_=>none
   | _,_,_=>none
  | _=>none
 | _=>none
theorem o9{P:Program}{s:Sem Value}{v:Value}{W:World}(h:s.run P W= .ok v W):(do pure (Next.value (←s)):Sem Next).run P W= .ok (.value v) W:=by simp[h]
theorem Gj{X:Ctx}{c ct cf:BU}{b:Bool}{Φ:Cy}(h:Vs X c=some (b,ct,cf))(ht:b=false->Φ ct)(hf:Φ cf):Reach X c Φ:=by
 unfold Vs at h;split at h
 rotate_left
 .cases h
 rename_i fn t n ops o l k ds kd rd cs H;split at h
 rotate_left
 .cases h
 rename_i ty x y yt ho;split at h
 rotate_left
 .cases h
 rename_i bb off j m cap nl nc e hx hy hu;split at h
 rotate_left
 .cases h
 rename_i ft ff hw hft hff;cases h
 intro base W0 hok hplan cs0 Z fr cs' W hm;obtain⟨hH,hlaid,g,gs,hfr,hcs,hnd⟩:=hm;cases hfr with
 | plain fn t n tm todo todo' ds ds' r kd rd rd' htm hi hd hrd=>
  cases hi with
  | @cons it it' k1 k1' h1 hk=>
   cases h1 with
   | Ks ops l1 idx hidx=>
    cases idx with
    | nil=>simp at hidx
    | cons i idx=>
     simp only[AAn,AAd]at hidx;have hev:∀x,AF Z (Bs X t x) (Frame.eval ⟨fn,tm,.inRegion ops (i::idx)::k1',ds',.run,kd,rd'⟩ x):=fun x=>NA hlaid htm x
     have hx':=hev x;have hy':=hev y;rw[hx]at hx';rw[hy]at hy';have key:∃bv:Bool,(Nat.blt 0 m=true->bv=false)/\(execOp (Frame.eval ⟨fn,tm,.inRegion ops (i::idx)::k1',ds',.run,kd,rd'⟩) o).run X.P W= .ok (.value (.bool bv)) W:=by
      have he:execOp (Frame.eval ⟨fn,tm,.inRegion ops (i::idx)::k1',ds',.run,kd,rd'⟩) o=(do pure (.value (←(do eqGuard .eql ty x y (Frame.eval ⟨fn,tm,.inRegion ops (i::idx)::k1',ds',.run,kd,rd'⟩ x) (Frame.eval ⟨fn,tm,.inRegion ops (i::idx)::k1',ds',.run,kd,rd'⟩ y);binOp .eql ty (Frame.eval ⟨fn,tm,.inRegion ops (i::idx)::k1',ds',.run,kd,rd'⟩ x) (Frame.eval ⟨fn,tm,.inRegion ops (i::idx)::k1',ds',.run,kd,rd'⟩ y))))):=by simp only[execOp,ho]
      have go:∀bv:Bool,IT X.P .eql ty (Frame.eval ⟨fn,tm,.inRegion ops (i::idx)::k1',ds',.run,kd,rd'⟩ x) (Frame.eval ⟨fn,tm,.inRegion ops (i::idx)::k1',ds',.run,kd,rd'⟩ y)=some (.bool bv)->
       (execOp (Frame.eval ⟨fn,tm,.inRegion ops (i::idx)::k1',ds',.run,kd,rd'⟩) o).run X.P W= .ok (.value (.bool bv)) W:=by
       intro bv hq;rw[he];exact o9 (Nd (x:=x) (y:=y) hq W)
      generalize Frame.eval ⟨fn,tm,.inRegion ops (i::idx)::k1',ds',.run,kd,rd'⟩ x=vx at hx' go;generalize Frame.eval ⟨fn,tm,.inRegion ops (i::idx)::k1',ds',.run,kd,rd'⟩ y=vy at hy' go;cases hy'
      cases hx' with
      | Bd=>exact⟨false,fun _=>rfl,go false (by simp[IT,Gd,Bl,hu])⟩
      | C9=>exact⟨false,fun _=>rfl,go false (by simp[IT,Gd,Bl,hu])⟩
      | Dz _ _ _ T a _ _=>
       cases a with
       | none=>exact⟨true,fun h=>absurd (VC h) (by omega),go true (by simp[IT,Gd,Bl,hu])⟩
       | some p=>exact⟨false,fun _=>rfl,go false (by simp[IT,Gd,Bl,hu])⟩
      | GI _ _ _ T a _ _=>
       cases a with
       | none=>exact⟨true,fun h=>absurd (VC h) (by omega),go true (by simp[IT,Gd,Bl,hu])⟩
       | some p=>exact⟨false,fun _=>rfl,go false (by simp[IT,Gd,Bl,hu])⟩
     obtain⟨bv,hb,hrun⟩:=key;have hst:=jM (cs:=cs'++cs0) hidx.1 (L7 htm hw) (fun c e=>by rw[ho]at e;cases e) hrun (.inl rfl);have hfr:Hi X Z H [] ⟨fn,t,n,.Ks ops (o::l)::k,ds,false,kd,rd⟩ ⟨fn,tm,.inRegion ops (i::idx)::k1',ds',.run,kd,rd'⟩:=
      .plain fn t n tm _ _ ds ds' false kd rd rd' htm (.cons (.Ks ops (o::l) (i::idx) (by simp[hidx.1,hidx.2])) hk) hd hrd
     cases bv with
     | true=>
      refine⟨_,ht ?_,Z,_,cs',W,.one hst,hH,hlaid,[],gs,EE hfr (.bool true) hft,hcs,hnd⟩;cases hq:Nat.blt 0 m
      .rfl
      .have:=hb hq;cases this
     | false=>exact⟨_,hf,Z,_,cs',W,.one hst,hH,hlaid,[],gs,EE hfr (.bool false) hff,hcs,hnd⟩
structure Ha(x h:Value):Prop where
 e:x=h
def TU(P:Program)(t:TypeId)(b off i:Nat)(H:AA):Option (Bool × Value × Bool):=
 match H.get b with
 | some (.vec k l _)=>
  match P.underlying t,D6 P t with
  | some d,some n=>
   bif Nat.ble (off+n) k.length&& !Ej d&&Nat.blt off AT then
    match (EK.enc k (l.getD i (EK.BJ k)))[off]? with
    | some v=>some (Nat.blt i l.length,v,Wk d)
    | none=>none
   else none
  | _,_=>none
 | _=>none
theorem ZV{P:Program}{t:TypeId}{b off i:Nat}{H:AA}{c sl:Bool}{x:Value}(h:TU P t b off i H=some (c,x,sl))(hc:c=true)(hs:sl=false\/lJ x=true):(It P t b off i H).run=some (x,H):=by
 unfold TU at h;unfold It;split at h
 .rename_i k l ro hb;split at h
  .rename_i d n hd hn;cases hk:(Nat.ble (off+n) k.length&& !Ej d&&Nat.blt off AT)
   .simp only[hk,AAR]at h;cases h
   .simp only[hk,AAO]at h;simp only[AAQ]at hk;obtain⟨⟨h1,h2⟩,h3⟩:=hk;have h2:Ej d=false:=by simpa using h2
    split at h
    .rename_i v hv;cases h
     simp only[VT.run,h3,AAO];unfold Ij;simp only[hb,hd,hn,h1,h2,AAO,AAR,hv];cases hsl:Wk d
     .simp only[AAR,VT.run,hc,AAO]
     .rcases hs with hs | hs
      .rw[hsl]at hs;cases hs
      .simp only[AAO,VT.run,hc,hs,ABv,Zu hs]
    .cases h
  .cases h
 .cases h
def RD(P:Program)(t:TypeId)(b off i:Nat)(H:AA):Option (Bool × Value):=
 match H.get b with
 | some (.vec k l _)=>
  match P.underlying t,D6 P t with
  | some d,some n=>bif Nat.ble (off+n) k.length&&Ej d&&Nat.blt off AT then some (Nat.blt i l.length,.agg ⟨((EK.enc k (l.getD i (EK.BJ k))).drop off).take n⟩)else none
  | _,_=>none
 | _=>none
theorem Va{P:Program}{t:TypeId}{b off i:Nat}{H:AA}{c:Bool}{x:Value}(h:RD P t b off i H=some (c,x))(hc:c=true):(It P t b off i H).run=some (x,H):=by
 unfold RD at h;unfold It;split at h
 .rename_i k l ro hb;split at h
  .rename_i d n hd hn;cases hk:(Nat.ble (off+n) k.length&&Ej d&&Nat.blt off AT)
   .simp only[hk,AAR]at h;cases h
   .simp only[hk,AAO]at h;simp only[AAQ]at hk;obtain⟨⟨h1,h2⟩,h3⟩:=hk;cases h
    simp only[VT.run,h3,AAO];unfold Ij;simp only[hb,hd,hn,h1,h2,AAO,VT.run,hc]
  .cases h
 .cases h
def fE:Value->Bool
 | .agg _=>true
 | _=>false
def fu:List (Nat × Value)->Nat->DJ
 | [],_=>none
 | p::r,b=>bif Nat.beq p.1 b then some p.2 else fu r b
def MV(X:Ctx)(hs:List (Nat × Value))(t:Tr Value)(o:Oper)(H:AA):Option (Bool × Value × Value):=
 match o.op with
 | .load ty a=>match Bs X t a with
  | .pointer (some ⟨b,off,some i⟩)=>match fu hs b with
   | some h=>bif fE h then match RD X.P ty b off i H with
    | some (c,x)=>some (c,x,h)
    | none=>none
    else match TU X.P ty b off i H with
    | some (c,x,sl)=>bif !sl||lJ h then some (c,x,h)else none
    | none=>none
   | none=>none
  | _=>none
 | _=>none
def Om(X:Ctx)(pf:Pf)(hs:List (Nat × Value))(c:BU)(K:Cy):Prop:=
 match c with
 | ⟨⟨fn,t,n,todo,ds,r,kd,rd⟩,cs,H⟩=>
  bif r then HC X pf ⟨⟨fn,t,n,todo,ds,r,kd,rd⟩,cs,H⟩ K else
  match todo with
  | .Ks ops (o::_)::_=>match MV X hs t o H with
   | some (b,x,h)=>La ops o t (bif b then Ha x h/\LW ⟨fn,t,n,todo,ds,r,kd,rd⟩ h cs H K else False) (LW ⟨fn,t,n,todo,ds,r,kd,rd⟩ Go.undef cs H K)
   | none=>HC X pf ⟨⟨fn,t,n,todo,ds,r,kd,rd⟩,cs,H⟩ K
  | .E0 ops (.op _ o::_)::_=>match MV X hs t o H with
   | some (b,x,h)=>La ops o t (bif b then Ha x h/\LW ⟨fn,t,n,todo,ds,r,kd,rd⟩ h cs H K else False) (LW ⟨fn,t,n,todo,ds,r,kd,rd⟩ Go.undef cs H K)
   | none=>HC X pf ⟨⟨fn,t,n,todo,ds,r,kd,rd⟩,cs,H⟩ K
  | _=>HC X pf ⟨⟨fn,t,n,todo,ds,r,kd,rd⟩,cs,H⟩ K
theorem Oi{X:Ctx}{pf:Pf}{hs:List (Nat × Value)}{t:Tr Value}{o:Oper}{fr:Ae}(ht:fr.tmps=t){cs:List Ae}{H:AA}{b:Bool}{x h:Value}{K:Cy}(hl:MV X hs t o H=some (b,x,h))(hb:b=true)(hx:x=h)(hK:LW fr h cs H K):RX X pf o fr cs H K:=by
 unfold MV at hl;split at hl
 .rename_i ty a ho;split at hl
  .rename_i bk off i ha;split at hl
   .rename_i h0 hh;have fin:∀{x0:Value},(It X.P ty bk off i H).run=some (x0,H)->LW fr x0 cs H K->RX X pf o fr cs H K:=by
     intro x0 hrun hK;have hv:Us X.P (Bs X fr.tmps) o H=some (It X.P ty bk off i H):=by
      unfold Us;simp only[ho,ht,ha]
     unfold RX;simp only[ho];unfold s9;simp only[hv];have:∀(T:VT),T.run=some (x0,H)->(∀(K:H5),K x0 H->T.Xm K):=by
      intro T;induction T with
      | fail=>intro h;cases h
      | ret v H2=>intro h K hk;cases h;exact hk
      | test c a b iha ihb=>
       intro h K hk;cases c
       .exact ihb h K hk
       .exact iha h K hk
     exact this _ hrun _ hK
    cases hag:fE h0
    .simp only[hag,AAR]at hl;split at hl
     .rename_i c x0 sl htl;cases hcs:(!sl||lJ h0)
      .simp only[hcs,AAR]at hl;cases hl
      .simp only[hcs,AAO,AAN,AAm]at hl;obtain⟨rfl,rfl,rfl⟩:=hl;have hrun:=ZV htl hb (by
        simp only[ABa,ABd]at hcs;rcases hcs with h | h
        .exact .inl h
        .rw[hx];exact .inr h)
       exact fin hrun (by rw[hx];exact hK)
     .cases hl
    .simp only[hag,AAO]at hl;split at hl
     .rename_i c x0 htl;simp only[AAN,AAm]at hl;obtain⟨rfl,rfl,rfl⟩:=hl;exact fin (Va htl hb) (by rw[hx];exact hK)
     .cases hl
   .cases hl
  .cases hl
 .cases hl
theorem Pz{ops:Array Oper}{o:Oper}{t:Tr Value}{Kt Kt' Kf:Prop}(h:La ops o t Kt Kf)(hi:Kt->Kt'):La ops o t Kt' Kf:=by
 unfold La at h ⊢;cases hg:o.guard with
 | none=>simp only[hg]at h ⊢;exact hi h
 | some p=>
  obtain⟨j,want⟩:=p;simp only[hg]at h ⊢;cases hv:HJ ops j with
  | none=>simp only[hv]at h ⊢;exact h
  | some d=>
   simp only[hv]at h ⊢;cases hk:look t d
   case bool b=>
    simp only[hk]at h ⊢;cases want<;>cases b<;>simp only[AAO,AAR]at h ⊢<;>first | exact h | exact hi h
   case tuple=>simp only[hk]at h ⊢;exact h
   all_goals (simp only[hk]at h)
theorem KJ{X:Ctx}{pf:Pf}{hs:List (Nat × Value)}{c:BU}{K:Cy}(h:Om X pf hs c K):HC X pf c K:=by
 obtain⟨⟨fn,t,n,todo,ds,r,kd,rd⟩,cs,H⟩:=c;unfold Om at h;simp only at h;cases r with
 | true=>simp only[AAO]at h;exact h
 | false=>
  simp only[AAR]at h;split at h
  .rename_i ops o rest k;split at h
   .rename_i b x hv hl;unfold HC;simp only[AAR];refine Pz h fun hh=>?_
    cases b
    .exact hh.elim
    .obtain⟨⟨hx⟩,hK⟩:=hh;exact Oi (fr:=⟨fn,t,n,_,ds,false,kd,rd⟩) rfl hl rfl hx hK
   .exact h
  .rename_i ops i o rest k;split at h
   .rename_i b x hv hl;unfold HC;simp only[AAR];refine Pz h fun hh=>?_
    cases b
    .exact hh.elim
    .obtain⟨⟨hx⟩,hK⟩:=hh;exact Oi (fr:=⟨fn,t,n,_,ds,false,kd,rd⟩) rfl hl rfl hx hK
   .exact h
  .exact h
def wA(b:Option Nat)(c:BU):Bool:=match b with
 | none=>true
 | some b=>Tj b c
def pC(X:Ctx)(pf:Pf)(hs:List (Nat × Value))(f:FuncId)(ids:AP)(S:Stop)(b:Option Nat)(S2:Stop)(b2:Option Nat)(ks:GJ)(Q:Bz)(R R2:Cy)(n:Nat):Cy:=
 Nat.rec (motive:=fun _=>Cy) (fun _=>False) (fun _ ih c=>match EV X f c with
  | some (v,H)=>Q v ((ids++Am 4 v).map H.get)
  | none=>bif S.here c&&wA b c then(match S.MP X ks c with
   | some c2=>R c2
   | none=>False)
   else bif S2.here c&&wA b2 c then(match S2.MP X ks c with
    | some c2=>R2 c2
    | none=>False)
   else match Vs X c with
    | some (b,ct,cf)=>bif b then ih cf else(ih ct/\ih cf)
    | none=>Om X pf hs c ih) n
theorem gU{X:Ctx}{pf:Pf}(hpf:Hm X pf){hs:List (Nat × Value)}{f:FuncId}{ids:AP}{M:Nat}{S S2:Stop}{b b2:Option Nat}{ks:GJ}(hl:(X.laid.all fun p=>Nat.blt p.1 M)=true)(hN:M<=S.N)(hN2:M<=S2.N){Q:Bz}{R R2:Cy}{Q':H5}(hQ:∀v H,Q v ((ids++Am 4 v).map H.get)->Q' v H)(hR:∀c,R c->Aa X M f Q' c)(hR2:∀c,R2 c->Aa X M f Q' c):∀(n:Nat)(c:BU),pC X pf hs f ids S b S2 b2 ks Q R R2 n c->Aa X M f Q' c:=by
 have up:∀N,M<=N->(X.laid.all fun p=>Nat.blt p.1 N)=true:=fun N hMN=>by
  rw[ACG]at hl ⊢;intro p hp;exact AAS (ABs (VC (hl p hp)) hMN)
 intro n;induction n with
 | zero=>intro c h;cases h
 | succ n ih=>
  intro c h;have h:(match EV X f c with
   | some (v,H)=>Q v ((ids++Am 4 v).map H.get)
   | none=>bif S.here c&&wA b c then(match S.MP X ks c with
    | some c2=>R c2
    | none=>False)
    else bif S2.here c&&wA b2 c then(match S2.MP X ks c with
     | some c2=>R2 c2
     | none=>False)
    else match Vs X c with
     | some (b0,ct,cf)=>bif b0 then pC X pf hs f ids S b S2 b2 ks Q R R2 n cf else(pC X pf hs f ids S b S2 b2 ks Q R R2 n ct/\pC X pf hs f ids S b S2 b2 ks Q R R2 n cf)
     | none=>Om X pf hs c (pC X pf hs f ids S b S2 b2 ks Q R R2 n)):=h
  split at h
  .rename_i v H e;exact BA.here ⟨v,H,e,hQ v H h⟩
  .cases hs:S.here c&&wA b c
   .simp only[hs,AAR]at h;cases hs2:S2.here c&&wA b2 c
    .simp only[hs2,AAR]at h;split at h
     .rename_i b0 ct cf hq;cases hb:b0
      .simp only[hb,AAR]at h;exact BA.bind (Reach.Td (Gj (Φ:=fun c'=>pC X pf _ f ids S b S2 b2 ks Q R R2 n c') hq (fun _=>h.1) h.2)) fun c' hc=>ih c' hc
      .simp only[hb,AAO]at h;exact BA.bind (Reach.Td (Gj (Φ:=fun c'=>pC X pf _ f ids S b S2 b2 ks Q R R2 n c') hq (fun e=>by rw[hb]at e;cases e) h)) fun c' hc=>ih c' hc
     .exact BA.bind (Reach.Td (KQ hpf (KJ h))) fun c' hc=>ih c' hc
    .simp only[hs2,AAO]at h;split at h
     .rename_i c2 hc;exact Mw (X:=X) (S:=S2) hN2 (up _ hN2) hc (hR2 c2 h)
     .cases h
   .simp only[hs,AAO]at h;split at h
    .rename_i c2 hc;exact Mw (X:=X) (S:=S) hN (up _ hN) hc (hR c2 h)
    .cases h
def S0(N:Nat):Stop:=⟨4294967295,0,0,N,[],[]⟩
def Bu(X:Ctx)(pf:Pf)(hs:List (Nat × Value))(f:FuncId)(ids:AP)(M:Nat)(Q:Bz)(n:Nat):Cy:=pC X pf hs f ids (S0 M) none (S0 M) none [] Q (fun _=>False) (fun _=>False) n
theorem Av{X:Ctx}{pf:Pf}(hpf:Hm X pf){hs:List (Nat × Value)}{f:FuncId}{ids:AP}{M:Nat}(hl:(X.laid.all fun p=>Nat.blt p.1 M)=true){Q:Bz}{n:Nat}{c:BU}(h:Bu X pf hs f ids M Q n c):Aa X M f (fun v H=>Q v ((ids++Am 4 v).map H.get)) c:=
 gU hpf hl (AAT M) (AAT M) (fun _ _ h=>h) (fun _ h=>h.elim) (fun _ h=>h.elim) n c h
abbrev Pj(X:Ctx)(pf:Pf)(hs:List (Nat × Value))(f:FuncId)(ids:AP)(S:Stop)(ks:GJ)(Q:Bz)(R:Cy)(n:Nat)(c:BU):Prop:=pC X pf hs f ids S none S none ks Q R (fun _=>False) n c
theorem DA{X:Ctx}{pf:Pf}(hpf:Hm X pf)(hs:List (Nat × Value)){f:FuncId}(ids:AP){M:Nat}(S:Stop)(ks:GJ)(hl:(X.laid.all fun p=>Nat.blt p.1 M)=true)(hN:M<=S.N){Q':H5}(Q:Bz)(R:Cy)(hQ:∀v H,Q v ((ids++Am 4 v).map H.get)->Q' v H)(hR:∀c,R c->Aa X M f Q' c){n:Nat}{c:BU}(h:Pj X pf hs f ids S ks Q R n c):Aa X M f Q' c:=
 gU hpf hl hN hN hQ hR (fun _ h=>h.elim) n c h
theorem K5{Z ν:AW}{a a1:Value}(hle:Z.le ν)(h:∀v',AF Z a v'->AF ν a1 v'){post:AL}:∀(pre l':AL),Af Z (pre++a::post) l'->Af ν (pre++a1::post) l'
 | [],_,hl=>by cases hl with | cons h1 h2=>exact .cons (h _ h1) (h2.mono hle)
 | p::pre,_,hl=>by cases hl with | cons h1 h2=>exact .cons (h1.mono hle) (K5 hle h pre _ h2)
section
variable {base:Env}{W0 W:World}{Z:AW}{H:AA}
def AA.ph(H:AA)(n:Nat):AA:=⟨H.m,max H.next n⟩
theorem AH.ph(h:AH base W0 Z H W)(n:Nat):AH base W0 Z (H.ph n) W:=
 ⟨h.obj,h.own,h.inj,fun b hb=>h.fresh b (ABs (Nat.le_max_left _ _) hb),h.bound,h.size,h.below,h.out,h.os,(let ⟨φ,a⟩:=h.abs;⟨φ,a.rep,a.C3⟩),h.le,h.grow⟩
def AA.F3(H:AA)(k:EK):AA:=(H.ph 100).alloc (.vec k [] false)
def AA.DR(H:AA):Nat:=max H.next 100
theorem AA.Oe(H:AA):100<=H.DR:=Nat.le_max_right _ _
theorem AA.KY(H:AA)(k:EK)(i:Nat):(H.F3 k).get i=if i=H.DR then some (.vec k [] false)else H.get i:=AA.AN _ _ _
def NoRoom(Z:AW)(x:Value):Prop:=∀v',AF Z x v'->∃a:Option (Nat × Nat),v'= .slice (a.map fun p=>⟨p.1,p.2,none⟩) 0 0
theorem Yb:NoRoom Z (.slice none 0 0):=fun v' hv=>by cases hv;exact⟨none,rfl⟩
theorem AH.lA(h:AH base W0 Z H W){b e c:Nat}{k:EK}{ro:Bool}{x:Value}{pre post:AL}(hc:∃T,Z c=some T)(hx:∀ν:AW,NoRoom ν x)(hb:H.get b=some (.cells (pre++x::post) e ro))(hb2:b < 100)(hk0:k.length≠0:=by decide):
 ∃μ2,Z.le μ2/\AH base W0 μ2 ((H.F3 k).put b (.cells (pre++ .slice (some ⟨H.DR,0,some 0⟩) 0 AT::post) e ro)) W:=by
 obtain⟨T,hT⟩:=hc;obtain⟨h1,h2⟩:=(h.ph 100).F3 hT hk0 false;refine⟨_,h2.le,?_⟩;have hb3:(H.F3 k).get b=some (.cells (pre++x::post) e ro):=by
  rw[AA.KY,AAW (by have:=H.Oe;omega)];exact hb
 have hs:AH base W0 _ (H.F3 k) W:=h1;refine hs.swap hb3 (fun T' o' _ ho=>?_) rfl rfl rfl (fun _ _ hv=>hv);cases ho with
 | cells _ _ _ c t lo hi he hc hr hf=>
  refine .cells T' _ e ro c t lo hi he ?_ hr hf;have hc2:=K5 (a1:= .slice (some ⟨H.DR,0,some 0⟩) 0 AT) (AW.le_refl _) (fun v' hv=>by
   obtain⟨a,rfl⟩:=hx _ v' hv;exact .Dz _ 0 AT _ a (AW.AY _ _ _) (.inr ⟨AAT _,ABQ _⟩)) pre _ hc
  have e1:(pre++x::post).length=(pre++Value.slice (some ⟨H.DR,0,some 0⟩) 0 AT::post).length:=by simp
  rw[<-e1];exact hc2
theorem AH.nM(h:AH base W0 Z H W){b e c:Nat}{k:EK}{ro:Bool}{pre post:AL}(hc:∃T,Z c=some T)(hb:H.get b=some (.cells (pre++ .slice none 0 0::post) e ro))(hb2:b < 100)(hk0:k.length≠0:=by decide):
 ∃μ2,Z.le μ2/\AH base W0 μ2 ((H.F3 k).put b (.cells (pre++ .slice (some ⟨H.DR,0,some 0⟩) 0 AT::post) e ro)) W:=
 h.lA hc (fun _=>Yb) hb hb2 hk0
end
theorem EA:AT=18446744073709551616:=by unfold AT;rfl
inductive Fz(z:Nat):Value->Value->Prop where
 | same (v:Value):Fz z v v
 | nil:Fz z (.slice none 0 0) (.slice (some ⟨z,0,some 0⟩) 0 18446744073709551616)
 | emp (b o:Nat):Fz z (.slice (some ⟨b,o,none⟩) 0 0) (.slice (some ⟨z,0,some 0⟩) 0 18446744073709551616)
inductive Vf(z:Nat):AL->AL->Prop where
 | nil:Vf z [] []
 | cons {v w:Value} {l m:AL} (h:Fz z v w) (t:Vf z l m):Vf z (v::l) (w::m)
inductive rT(z:Nat):Value->Value->Prop where
 | val {v w:Value} (h:Fz z v w):rT z v w
 | tuple {l m:AL} (h:Vf z l m):rT z (.tuple ⟨l⟩) (.tuple ⟨m⟩)
theorem Fz.QT{Z ν:AW}(hle:Z.le ν){z:Nat}{T:BQ}(hz:ν z=some T){v w v':Value}(h:Fz z v w)(hv:AF Z v v'):AF ν w v':=by
 cases h with
 | same=>exact hv.mono hle
 | nil=>
  cases hv
  exact .Dz z 0 _ T none hz (.inr ⟨by rw[EA];exact AAT _,by rw[EA]⟩)
 | emp b o=>
  cases hv with
  | slice _ _ _ _ cap' o' T' hm hc ho=>
   obtain rfl:cap'=0:=by
    rcases hc with⟨_,h⟩ | ⟨h,_⟩
    .exact h
    .rw[EA]at h;omega
   exact .Dz z 0 _ T (some (T'.c,o')) hz (.inr ⟨by rw[EA];exact AAT _,by rw[EA]⟩)
theorem Vf.iU{Z ν:AW}(hle:Z.le ν){z:Nat}{T:BQ}(hz:ν z=some T){l m:AL}(h:Vf z l m):∀{l':AL},Af Z l l'->Af ν m l':=by
 induction h with
 | nil=>intro l' h;cases h;exact .nil
 | cons h _ ih=>intro l' hl;cases hl with | cons h1 h2=>exact .cons (h.QT hle hz h1) (ih h2)
theorem Vf.length{z:Nat}{l m:AL}(h:Vf z l m):l.length=m.length:=by
 induction h with
 | nil=>rfl
 | cons _ _ ih=>simp[ih]
theorem rT.QT{Z ν:AW}(hle:Z.le ν){z:Nat}{T:BQ}(hz:ν z=some T){v w v':Value}(h:rT z v w)(hv:AF Z v v'):AF ν w v':=by
 cases h with
 | val h=>exact h.QT hle hz hv
 | tuple h=>
  obtain⟨xs',rfl,hl⟩:=AF.CM.1 hv;exact AF.CM.2 ⟨xs',rfl,h.iU hle hz hl⟩
theorem Vf.refl(z:Nat):∀l:AL,Vf z l l
 | []=> .nil
 | v::l=> .cons (.same v) (Vf.refl z l)
theorem AF.uz{Z ν:AW}{a j z:Nat}{T M:BQ}{w:Value}(hT:Z a=some T)(hM:KW T.e j=some M)(hz:ν z=some M)(h:AF Z (.pointer (some ⟨a,AT,some j⟩)) w):AF ν (.pointer (some ⟨z,0,none⟩)) w:=by
 cases h with
 | HV _ _ _ _ _ hlo=>exact absurd hlo (ABY _)
 | Hn _ _ _ T2 M2 h1 h2 _=>
  rw[hT]at h1;cases h1
  rw[hM]at h2;cases h2
  exact .ptr z 0 M hz
section
variable {base:Env}{W0:World}{Z:AW}{H:AA}{W:World}
def AA.OZ(H:AA)(a j:Nat)(L:List (Option Pk))(s:Pk):AA:=(H.put a (.abs (.Bk (L.set j none)) false)).alloc (.abs (.pack s) false)
theorem Nq{H:AA}{a j:Nat}{L:List (Option Pk)}{s:Pk}(x:Nat):(H.OZ a j L s).get x=if x=H.next then some (.abs (.pack s) false)else if x=a then some (.abs (.Bk (L.set j none)) false)else H.get x:=by
 unfold AA.OZ;rw[AA.AN];show(if x=H.next then _ else _)=_;split
 .rfl
 .rw[AA.AQ]
theorem AH.OZ(h:AH base W0 Z H W){a j:Nat}{L:List (Option Pk)}{s:Pk}{T:BQ}(ha:H.get a=some (.abs (.Bk L) false))(hm:Z a=some T)(hj:L[j]? = some (some s)):
 ∃ts M,T.e=CO ts/\ts[j]? = some M/\DO s=[]/\AH base W0 (Z.ext H.next M) (H.OZ a j L s) W:=by
 obtain⟨φ,q⟩:=h.abs;obtain⟨⟨ts,Fm,hR,hP⟩,hK⟩:=q.rep a _ false T ha hm;have hK:=hK rfl;have hlt:=h.lt ha;obtain⟨M,hM⟩:=hR.at hj;refine⟨ts,M,hR.code,hM,hR.ext j s hj,?_⟩;have hpk:=hP j M s hM hj;obtain⟨hb1,hb2⟩:=hpk.JO;have hsub:∀x,Fm j x->φ a x:=fun x hx=>(hR.own x).2 ⟨j,s,hj,hx⟩
 have hMs:M.c < W.heap.size:=hb2 _ hb1;have hle:Z.le (Z.ext H.next M):=AW.CV M (h.fresh _ (AAT _)).2;have key:∀b o T2,(H.OZ a j L s).get b=some o->(Z.ext H.next M) b=some T2->(b=H.next/\o= .abs (.pack s) false/\T2=M)\/(b=a/\o= .abs (.Bk (L.set j none)) false/\T2=T)\/(b≠H.next/\b≠a/\H.get b=some o/\Z b=some T2):=by
  intro b o T2 hb hT;rw[Nq]at hb
  by_cases e:b=H.next
  .rw[AAZ e]at hb;cases hb
   subst e;rw[AW.AY]at hT;cases hT
   exact .inl ⟨rfl,rfl,rfl⟩
  .rw[AAW e]at hb;rw[AW.BB _ _ e]at hT
   by_cases e2:b=a
   .rw[AAZ e2]at hb;cases hb
    subst e2;rw[hm]at hT;cases hT
    exact .inr (.inl ⟨rfl,rfl,rfl⟩)
   .rw[AAW e2]at hb;exact .inr (.inr ⟨e,e2,hb,hT⟩)
 have C3:∀b o T2,H.get b=some o->Z b=some T2->b≠a->¬o.void T2->¬Fm j T2.c:=fun b o T2 hb hT hne hv hx=>(q.C3 a _ false T ha hm b o T2 hb hT hne).1 hv (hsub _ hx)
 have hset:∀(i:Nat)(m:Pk),(L.set j none)[i]? = some (some m)->i≠j/\L[i]? = some (some m):=by
  intro i m hi;rw[AAe]at hi
  by_cases e:j=i
  .rw[AAZ e]at hi;split at hi<;>cases hi
  .rw[AAW e]at hi;exact⟨fun h=>e h.symm,hi⟩
 have hset2:∀(i:Nat)(m:Pk),i≠j->L[i]? = some (some m)->(L.set j none)[i]? = some (some m):=by
  intro i m e hi;rw[AAe,AAW (fun h=>e h.symm)];exact hi
 let φ':Nat->Nat->Prop:=fun b x=>if b=H.next then Fm j x else if b=a then φ a x/\¬Fm j x else φ b x
 have φz:∀x,φ' H.next x <-> Fm j x:=fun x=>by show(if H.next=H.next then _ else _) <-> _;rw[AAZ rfl]
 have φa:∀x,φ' a x <-> (φ a x/\¬Fm j x):=fun x=>by show(if a=H.next then _ else if a=a then _ else _) <-> _;rw[AAW (by omega),AAZ rfl]
 have φo:∀b,b≠H.next->b≠a->φ' b=φ b:=fun b hb hb2=>by funext x;show(if b=H.next then _ else if b=a then _ else _)=_;rw[AAW hb,AAW hb2]
 refine⟨?_,?_,?_,?_,?_,h.size,h.below,h.out,h.os,⟨φ',?_,?_⟩,AW.le_trans h.le hle,h.grow⟩
 .intro b o hb T2 hT;rcases key b o T2 hb hT with⟨rfl,rfl,rfl⟩ | ⟨rfl,rfl,rfl⟩ | ⟨_,_,hb,hT⟩
  .exact⟨_,ABA hMs,.abs _ _ _ _⟩
  .obtain⟨p,hp,_⟩:=h.obj b _ ha _ hm;exact⟨p,hp,.abs _ _ _ _⟩
  .obtain⟨p,hp,hp2⟩:=h.obj b o hb T2 hT;exact⟨p,hp,hp2.mono hle⟩
 .intro b o hb hr T2 hT hv;rcases key b o T2 hb hT with⟨rfl,rfl,rfl⟩ | ⟨rfl,rfl,rfl⟩ | ⟨_,_,hb,hT⟩
  .exact hK _ (hsub _ hb1)
  .exact absurd trivial hv
  .exact h.own b o hb hr T2 hT hv
 .intro b1 b2 o1 o2 h1 h2 T1 T2 m1 m2 v1 v2 hc hrr;rcases key b1 o1 T1 h1 m1 with⟨rfl,rfl,rfl⟩ | ⟨rfl,rfl,rfl⟩ | ⟨n1,n2,g1,k1⟩<;>rcases key b2 o2 T2 h2 m2 with⟨rfl,rfl,rfl⟩ | ⟨rfl,rfl,rfl⟩ | ⟨n3,n4,g2,k2⟩
  .rfl
  .exact absurd trivial v2
  .exact absurd (hc ▸ hb1) (C3 b2 o2 T2 g2 k2 n4 v2)
  .exact absurd trivial v1
  .rfl
  .exact absurd trivial v1
  .exact absurd (hc ▸ hb1) (C3 b1 o1 T1 g1 k1 n2 v1)
  .exact absurd trivial v2
  .exact h.inj _ _ o1 o2 g1 g2 T1 T2 k1 k2 v1 v2 hc hrr
 .intro b hb;have hb:H.next+1<=b:=hb;refine⟨?_,by rw[AW.BB _ _ (by omega)];exact(h.fresh b (by omega)).2⟩;rw[Nq,AAW (by omega),AAW (by omega)];exact(h.fresh b (by omega)).1
 .intro b T2 hT
  by_cases e:b=H.next
  .subst e;rw[AW.AY]at hT;cases hT;exact hMs
  .rw[AW.BB _ _ e]at hT;exact h.bound b T2 hT
 .intro b c ro T2 hb hT;rcases key b _ T2 hb hT with⟨rfl,e,rfl⟩ | ⟨rfl,e,rfl⟩ | ⟨n1,n2,hb,hT⟩
  .cases e
   have e2:φ' H.next=Fm j:=funext fun x=>propext (φz x)
   rw[e2];exact⟨Fv.mono hle hpk,fun _ i hi=>hK i (hsub i hi)⟩
  .cases e
   refine⟨⟨ts,Fm,⟨hR.code,by rw[AAk];exact hR.len,hR.ZJ,fun i m h1=>hR.ext i m (hset i m h1).2,fun i1 i2 x m1 m2 h1 h2 h3 h4=>hR.w8 i1 i2 x m1 m2 (hset i1 m1 h1).2 (hset i2 m2 h2).2 h3 h4,fun x=>?_⟩,fun i N m h1 h2=>(hP i N m h1 (hset i m h2).2).mono hle⟩,fun _ i hi=>hK i ((φa i).1 hi).1⟩;rw[φa x,hR.own x];constructor
   .rintro⟨⟨i,m,g1,g2⟩,h2⟩;have e:i≠j:=by rintro rfl;exact h2 g2
    exact⟨i,m,hset2 i m e g1,g2⟩
   .rintro⟨i,m,g1,g2⟩;obtain⟨e,g3⟩:=hset i m g1;exact⟨⟨i,m,g3,g2⟩,fun hh=>e (hR.w8 i j x m s g3 hj g2 hh)⟩
  .obtain⟨r1,r2⟩:=q.rep b c ro T2 hb hT;rw[φo b n1 n2];exact⟨r1.mono hle,r2⟩
 .intro b c ro T2 hb hT b2 o2 T3 hb2 hT2 hne;rcases key b _ T2 hb hT with⟨rfl,e,rfl⟩ | ⟨rfl,e,rfl⟩ | ⟨n1,n2,hb,hT⟩
  .rcases key b2 o2 T3 hb2 hT2 with⟨rfl,_,_⟩ | ⟨rfl,rfl,rfl⟩ | ⟨n3,n4,g2,k2⟩
   .exact absurd rfl hne
   .exact⟨fun hv2=>absurd trivial hv2,fun _ i hi hi2=>((φa i).1 hi2).2 ((φz i).1 hi)⟩
   .rw[φo b2 n3 n4];have:=q.C3 a _ false _ ha hm b2 o2 T3 g2 k2 n4;exact⟨fun hv2 hh=>this.1 hv2 (hsub _ ((φz _).1 hh)),fun h1 i hi hi2=>this.2 h1 i (hsub _ ((φz _).1 hi)) hi2⟩
  .rcases key b2 o2 T3 hb2 hT2 with⟨rfl,rfl,rfl⟩ | ⟨rfl,_,_⟩ | ⟨n3,n4,g2,k2⟩
   .exact⟨fun _ hh=>((φa _).1 hh).2 hb1,fun _ i hi hi2=>((φa i).1 hi).2 ((φz i).1 hi2)⟩
   .exact absurd rfl hne
   .rw[φo b2 n3 n4];have:=q.C3 b _ false _ ha hm b2 o2 T3 g2 k2 n4;exact⟨fun hv2 hh=>this.1 hv2 ((φa _).1 hh).1,fun h1 i hi hi2=>this.2 h1 i ((φa _).1 hi).1 hi2⟩
  .rw[φo b n1 n2];have hba:=q.C3 b c ro T2 hb hT a _ T ha hm (ABB n2);rcases key b2 o2 T3 hb2 hT2 with⟨rfl,rfl,rfl⟩ | ⟨rfl,rfl,rfl⟩ | ⟨n3,n4,g2,k2⟩
   .exact⟨fun _ hh=>hba.2 rfl _ hh (hsub _ hb1),fun _ i hi hi2=>hba.2 rfl i hi (hsub _ ((φz i).1 hi2))⟩
   .exact⟨fun hv2=>absurd trivial hv2,fun _ i hi hi2=>hba.2 rfl i hi ((φa i).1 hi2).1⟩
   .rw[φo b2 n3 n4];exact q.C3 b c ro T2 hb hT b2 o2 T3 g2 k2 hne
theorem AH.bG(h:AH base W0 Z H W){a z j:Nat}{L:List (Option Pk)}{s:Pk}{T M:BQ}{ts:List BQ}(ha:H.get a=some (.abs (.Bk (L.set j none)) false))(hm:Z a=some T)(hc:T.e=CO ts)(hM:ts[j]? = some M)(hz:H.get z=some (.abs (.pack s) false))(hzm:Z z=some M)(he:DO s=[])(hj:j < L.length):AH base W0 Z ((H.del z).put a (.abs (.Bk (L.set j (some s))) false)) W:=by
 obtain⟨φ,q⟩:=h.abs;obtain⟨⟨us,Fm,hR,hP⟩,hK⟩:=q.rep a _ false T ha hm;have hut:us=ts:=Hw (hR.code.symm.trans hc);subst hut;obtain⟨hZ,hZK⟩:=q.rep z _ false M hz hzm;have hZ:Fv Z W s M (φ z):=hZ;have hza:z≠a:=by rintro rfl;rw[ha]at hz;cases hz
 have get:∀x,((H.del z).put a (.abs (.Bk (L.set j (some s))) false)).get x=if x=a then some (.abs (.Bk (L.set j (some s))) false)else if x=z then none else H.get x:=fun x=>by
  rw[AA.AQ];split
  .rfl
  .rw[AA.BK]
 have key:∀b o T2,((H.del z).put a (.abs (.Bk (L.set j (some s))) false)).get b=some o->Z b=some T2->(b=a/\o= .abs (.Bk (L.set j (some s))) false/\T2=T)\/(b≠a/\b≠z/\H.get b=some o):=by
  intro b o T2 hb hT;rw[get]at hb
  by_cases e:b=a
  .rw[AAZ e]at hb;cases hb
   subst e;rw[hm]at hT;cases hT
   exact .inl ⟨rfl,rfl,rfl⟩
  .rw[AAW e]at hb
   by_cases e2:b=z
   .rw[AAZ e2]at hb;cases hb
   .rw[AAW e2]at hb;exact .inr ⟨e,e2,hb⟩
 have get1:∀(i:Nat)(m:Pk),(L.set j (some s))[i]? = some (some m)->(i=j/\m=s)\/(i≠j/\(L.set j none)[i]? = some (some m)):=by
  intro i m hi;rw[AAe]at hi
  by_cases e:j=i
  .rw[AAZ e,AAZ hj]at hi;cases hi
   exact .inl ⟨e.symm,rfl⟩
  .rw[AAW e]at hi;refine .inr ⟨fun h=>e h.symm,?_⟩;rw[AAe,AAW e];exact hi
 have get2:∀(i:Nat)(m:Pk),(L.set j none)[i]? = some (some m)->i≠j/\(L.set j (some s))[i]? = some (some m):=by
  intro i m hi;rw[AAe]at hi
  by_cases e:j=i
  .rw[AAZ e]at hi;split at hi<;>cases hi
  .rw[AAW e]at hi;refine⟨fun h=>e h.symm,?_⟩;rw[AAe,AAW e];exact hi
 have get3:(L.set j (some s))[j]? = some (some s):=by rw[AAe,AAZ rfl,AAZ hj]
 have zfar:=q.C3 a _ false T ha hm z _ M hz hzm hza;let Fm':Nat->Nat->Prop:=fun i x=>if i=j then φ z x else Fm i x
 have Fj:∀x,Fm' j x <-> φ z x:=fun x=>by show(if j=j then _ else _) <-> _;rw[AAZ rfl]
 have Fo:∀i,i≠j->Fm' i=Fm i:=fun i hi=>by funext x;show(if i=j then _ else _)=_;rw[AAW hi]
 let φ':Nat->Nat->Prop:=fun b x=>if b=a then φ a x\/φ z x else φ b x
 have φa:∀x,φ' a x <-> (φ a x\/φ z x):=fun x=>by show(if a=a then _ else _) <-> _;rw[AAZ rfl]
 have φo:∀b,b≠a->φ' b=φ b:=fun b hb=>by funext x;show(if b=a then _ else _)=_;rw[AAW hb]
 refine⟨?_,?_,?_,?_,h.bound,h.size,h.below,h.out,h.os,⟨φ',?_,?_⟩,h.le,h.grow⟩
 .intro b o hb T2 hT;rcases key b o T2 hb hT with⟨rfl,rfl,rfl⟩ | ⟨_,_,hb⟩
  .obtain⟨p,hp,_⟩:=h.obj b _ ha _ hm;exact⟨p,hp,.abs _ _ _ _⟩
  .exact h.obj b o hb T2 hT
 .intro b o hb hr T2 hT hv;rcases key b o T2 hb hT with⟨rfl,rfl,rfl⟩ | ⟨_,_,hb⟩
  .exact absurd trivial hv
  .exact h.own b o hb hr T2 hT hv
 .intro b1 b2 o1 o2 h1 h2 T1 T2 m1 m2 v1 v2 hcc hrr;rcases key b1 o1 T1 h1 m1 with⟨rfl,rfl,rfl⟩ | ⟨n1,n2,g1⟩<;>rcases key b2 o2 T2 h2 m2 with⟨rfl,rfl,rfl⟩ | ⟨n3,n4,g2⟩
  .rfl
  .exact absurd trivial v1
  .exact absurd trivial v2
  .exact h.inj _ _ o1 o2 g1 g2 T1 T2 m1 m2 v1 v2 hcc hrr
 .intro b hb;have hb:H.next<=b:=hb;refine⟨?_,(h.fresh b hb).2⟩;have hlt:=h.lt ha;rw[get,AAW (by omega)];split
  .rfl
  .exact(h.fresh b hb).1
 .intro b c ro T2 hb hT;rcases key b _ T2 hb hT with⟨rfl,e,rfl⟩ | ⟨n1,n2,hb⟩
  .cases e
   refine⟨⟨us,Fm',⟨hR.code,by rw[AAk];have:=hR.len;rw[AAk]at this;exact this,hR.ZJ,fun i m h1=>?_,fun i1 i2 x m1 m2 h1 h2 h3 h4=>?_,fun x=>?_⟩,fun i N m h1 h2=>?_⟩,fun hro i hi=>?_⟩
   .rcases get1 i m h1 with⟨rfl,rfl⟩ | ⟨_,h1⟩
    .exact he
    .exact hR.ext i m h1
   .rcases get1 i1 m1 h1 with⟨e1,e2⟩ | ⟨e1,g3⟩<;>rcases get1 i2 m2 h2 with⟨e3,e4⟩ | ⟨e3,g4⟩
    .exact e1.trans e3.symm
    .subst e1 e2;rw[Fo i2 e3]at h4;exact absurd ((Fj x).1 h3) (zfar.2 rfl x ((hR.own x).2 ⟨i2,m2,g4,h4⟩))
    .subst e3 e4;rw[Fo i1 e1]at h3;exact absurd ((Fj x).1 h4) (zfar.2 rfl x ((hR.own x).2 ⟨i1,m1,g3,h3⟩))
    .rw[Fo i1 e1]at h3;rw[Fo i2 e3]at h4;exact hR.w8 i1 i2 x m1 m2 g3 g4 h3 h4
   .rw[φa x,hR.own x];constructor
    .rintro(⟨i,m,g1,g2⟩ | h1)
     .obtain⟨e,g3⟩:=get2 i m g1;exact⟨i,m,g3,by rw[Fo i e];exact g2⟩
     .exact⟨j,s,get3,(Fj x).2 h1⟩
    .rintro⟨i,m,g1,g2⟩;rcases get1 i m g1 with⟨rfl,rfl⟩ | ⟨e,g3⟩
     .exact .inr ((Fj x).1 g2)
     .rw[Fo i e]at g2;exact .inl ⟨i,m,g3,g2⟩
   .rcases get1 i m h2 with⟨rfl,rfl⟩ | ⟨e,h2⟩
    .rw[hM]at h1;cases h1
     have e2:Fm' i=φ z:=funext fun x=>propext (Fj x)
     rw[e2];exact hZ
    .rw[Fo i e];exact hP i N m h1 h2
   .rcases(φa i).1 hi with hi | hi
    .exact hK rfl i hi
    .exact hZK rfl i hi
  .rw[φo b n1];exact q.rep b c ro T2 hb hT
 .intro b c ro T2 hb hT b2 o2 T3 hb2 hT2 hne;rcases key b _ T2 hb hT with⟨rfl,e,rfl⟩ | ⟨n1,n2,hb'⟩
  .rcases key b2 o2 T3 hb2 hT2 with⟨rfl,_,_⟩ | ⟨n3,n4,g2⟩
   .exact absurd rfl hne
   .have f1:=q.C3 b _ false _ ha hm b2 o2 T3 g2 hT2 n3;have f2:=q.C3 z _ false _ hz hzm b2 o2 T3 g2 hT2 n4;refine⟨fun hv2 hh=>?_,fun h1 i hi hi2=>?_⟩
    .rcases(φa _).1 hh with hh | hh
     .exact f1.1 hv2 hh
     .exact f2.1 hv2 hh
    .rw[φo b2 n3]at hi2;rcases(φa _).1 hi with hi | hi
     .exact f1.2 h1 i hi hi2
     .exact f2.2 h1 i hi hi2
  .rw[φo b n1];rcases key b2 o2 T3 hb2 hT2 with⟨rfl,rfl,rfl⟩ | ⟨n3,n4,g2⟩
   .have f1:=q.C3 b c ro T2 hb' hT b2 _ _ ha hm hne;have f2:=q.C3 b c ro T2 hb' hT z _ _ hz hzm (ABB n2);refine⟨fun hv2=>absurd trivial hv2,fun _ i hi hi2=>?_⟩;rcases(φa _).1 hi2 with hi2 | hi2
    .exact f1.2 rfl i hi hi2
    .exact f2.2 rfl i hi hi2
   .have:=q.C3 b c ro T2 hb' hT b2 o2 T3 g2 hT2 hne;rw[φo b2 n3];exact this
end
open Classical in
def Ps(F:DL):DL:=fun args H=>match args with
 | .pointer (some ⟨a,18446744073709551616,some j⟩)::rest=>match H.get a with
  | some (.abs (.Bk L) false)=>match L[j]? with
   | some (some s)=>match F (.pointer (some ⟨H.next,0,none⟩)::rest) (H.OZ a j L s)with
    | some (v,H2)=>match H2.get H.next with
     | some (.abs (.pack s2) false)=>if DO s2=[]/\H2.get a=some (.abs (.Bk (L.set j none)) false)then some (v,(H2.del H.next).put a (.abs (.Bk (L.set j (some s2))) false))else none
     | _=>none
    | none=>none
   | _=>none
  | _=>none
 | _=>F args H
theorem oV:AT=18446744073709551616:=by unfold AT;rfl
theorem i6{P:Program}{laid:DD}{f:FuncId}{F:DL}(h:CH P laid f F):CH P laid f (Ps F):=by
 refine⟨h.1,fun base W0 Z H W args args' v H' hW hH hl ha hF=>?_⟩;unfold Ps at hF;split at hF
 .rename_i a j rest;split at hF
  .rename_i L hga;split at hF
   .rename_i s hLj;split at hF
    .rename_i v1 H2 hF2;split at hF
     .rename_i s2 hz2;split at hF
      .rename_i hkeep;cases hF
       obtain⟨k1,k2⟩:=hkeep;obtain⟨args'⟩:=args';cases ha with
       | cons ha0 har=>
        rename_i w rest';have ha0:AF Z (.pointer (some ⟨a,AT,some j⟩)) w:=by rw[oV];exact ha0
        obtain⟨T,hT⟩:∃T,Z a=some T:=by
         cases ha0 with
         | HV _ _ _ T h=>exact⟨T,h⟩
         | Hn _ _ _ T _ h=>exact⟨T,h⟩
        obtain⟨ts,M,e1,e2,e3,hH2⟩:=hH.OZ hga hT hLj;have hlt:=hH.lt hga;have hle:Z.le (Z.ext H.next M):=AW.CV M (hH.fresh _ (AAT _)).2;have ha0':AF (Z.ext H.next M) (.pointer (some ⟨H.next,0,none⟩)) w:=AF.uz hT (by rw[e1,FQ];exact e2) (AW.AY _ _ _) ha0;refine(h.2 base W0 _ _ W _ _ _ _ hW hH2 (hl.mono hle) (.cons ha0' (har.mono hle)) hF2).mono fun e W' ⟨v',μ',he,r1,r2,r3⟩=>?_
        have ma:μ' a=some T:=r3.le a T (hle a T hT);have mz:μ' H.next=some M:=r3.le _ M (AW.AY _ _ _);have r4:=r1.bG (a:=a) (z:=H.next) (j:=j) k2 ma e1 e2 hz2 mz k1 (List.getElem?_eq_some_iff.1 hLj).1;refine⟨v',μ',he,r4,r2,AW.le_trans hle r3.le,?_,fun b hb hn=>?_⟩
        .have h1:=r3.next;have h2:H.next+1<=H2.next:=h1;show H.next<=H2.next;omega
        .have hba:b≠a:=by rintro rfl;rw[hT]at hn;cases hn
         have g:=r3.ghost b (by show b < H.next+1;omega) (by rw[AW.BB _ _ (by omega)];exact hn);refine⟨g.1,?_⟩;rw[AA.AQ,AAW hba,AA.BK,AAW (by omega),g.2,Nq,AAW (by omega),AAW hba]
      .cases hF
     .cases hF
    .cases hF
   .cases hF
  .cases hF
 .exact h.2 base W0 Z H W args args' v H' hW hH hl ha hF
structure Uc(L:List (Option Pk))(j:Nat)(s:Pk):Prop where
 e:L[j]? = some (some s)
structure Gb(s2:Pk)(L L2:List (Option Pk))(j:Nat):Prop where
 e1:DO s2=[]
 e2:L2=L.set j none
def kK(p:GN)(s:Pk):GN:=fun args H K=>match args with
 | .pointer (some ⟨a,18446744073709551616,some j⟩)::rest=>match H.get a with
  | some (.abs (.Bk L) false)=>Uc L j s/\p (.pointer (some ⟨H.next,0,none⟩)::rest) (H.OZ a j L s) fun v H2=>
   match H2.get H.next with
   | some (.abs (.pack s2) false)=>match H2.get a with
    | some (.abs (.Bk L2) false)=>Gb s2 L L2 j/\K v ((H2.del H.next).put a (.abs (.Bk (L.set j (some s2))) false))
    | _=>False
   | _=>False
  | _=>False
 | _=>p args H K
theorem jC{X:Ctx}{f:FuncId}{F:DL}{p:GN}{s:Pk}(hX:X.Hp f=some (Ps F))(hp:∀(args:AL)(H:AA)(K:H5),p args H K->∃v H',F args H=some (v,H')/\K v H')(args:AL)(H:AA)(K:H5)(h:kK p s args H K):∃v H',B3 X f args .normal H=some (v,H')/\K v H':=by
 have fin:∀v H',Ps F args H=some (v,H')->B3 X f args .normal H=some (v,H'):=fun v H' e=>by unfold B3;rw[hX];exact e
 unfold kK at h;split at h
 .rename_i a j rest;split at h
  .rename_i L hga;obtain⟨⟨hL⟩,h⟩:=h;obtain⟨v,H2,h1,h5⟩:=hp _ _ _ h;split at h5
   .rename_i s2 h2;split at h5
    .rename_i L2 h3;obtain⟨⟨e1,rfl⟩,h4⟩:=h5;refine⟨v,_,fin _ _ ?_,h4⟩;unfold Ps;simp only[hga,hL,h1,h2];rw[AAZ ⟨e1,h3⟩]
    .exact h5.elim
   .exact h5.elim
  .exact h.elim
 .rename_i hno;obtain⟨v,H2,h1,h5⟩:=hp _ _ _ h;refine⟨v,H2,fin _ _ ?_,h5⟩;unfold Ps;split
  .rename_i a j rest;exact absurd rfl (hno a j rest)
  .exact h1
theorem Hu{Z:AW}{b o m cap:Nat}{s:Option Nat}{v':Value}(h:AF Z (.slice (some ⟨b,o,s⟩) m cap) v'):∃T,Z b=some T:=by
 cases h with
 | slice _ _ _ _ _ _ T h _ _=>exact⟨T,h⟩
 | Bd _ _ _ _ _ _ T h _ _ _=>exact⟨T,h⟩
 | Dz _ _ _ T _ h _=>exact⟨T,h⟩
 | C9 _ _ _ _ _ _ T _ h _ _ _ _=>exact⟨T,h⟩
 | GI _ _ _ T _ h _=>exact⟨T,h⟩
theorem Jr{Z:AW}{b o:Nat}{s:Option Nat}{v':Value}(h:AF Z (.pointer (some ⟨b,o,s⟩)) v'):∃T,Z b=some T:=by
 cases h with
 | ptr _ _ T h=>exact⟨T,h⟩
 | HV _ _ _ T h=>exact⟨T,h⟩
 | Hn _ _ _ T _ h=>exact⟨T,h⟩
theorem BA.SL{X:Ctx}{N:Nat}{Φ:Cy}{fn:FuncId}{t:Tr Value}{n:Nat}{todo:List Cs}{ds:List Deferred}{r:Bool}{kd:CallKind}{rd:Option Nat}{cs:List Ae}{H:AA}(b j:Nat)(k:EK)(pre post:AL){e:Nat}{ro:Bool}(hd:Df todo=true)(hds:(cs.all fun f=>Df f.todo)=true)(hj:∀(ν:AW) v',AF ν (look t j) v'->∃c T,ν c=some T)(hb:H.get b=some (.cells (pre++ .slice none 0 0::post) e ro))(hk:k.length≠0)(hr:BA X N ⟨⟨fn,t,n,todo,ds,r,kd,rd⟩,cs,(H.alloc (.vec k [] false)).put b (.cells (pre++ .slice (some ⟨H.next,0,some 0⟩) 0 AT::post) e ro)⟩ Φ):BA X N ⟨⟨fn,t,n,todo,ds,r,kd,rd⟩,cs,H⟩ Φ:=by
 intro base W0 hb0 hok hplan cs0 Z fr cs' W hm;obtain⟨hH,hlaid,g,gs,hfr,hcs,hnd⟩:=hm;cases hfr with
 | plain fn t n tm todo todo' ds ds' r kd rd rd' ht hi2 hd2 hr2=>
  have hj2:=ht.2 j;obtain⟨_,T,hT⟩:=hj _ _ hj2;obtain⟨h1,h2⟩:=hH.F3 hT hk false;have hlt:b < H.next:=hH.lt hb;have hb3:(H.alloc (.vec k [] false)).get b=some (.cells (pre++ .slice none 0 0::post) e ro):=by
   rw[AA.AN,AAW (by omega)];exact hb
  have h3:=h1.swap (o1:= .cells (pre++ .slice (some ⟨H.next,0,some 0⟩) 0 AT::post) e ro) hb3 (fun T' o' _ ho=>by
   cases ho with
   | cells _ _ _ c t lo hi he hc hr hf=>
    refine .cells T' _ e ro c t lo hi he ?_ hr hf;have hc2:=K5 (a1:= .slice (some ⟨H.next,0,some 0⟩) 0 AT) (AW.le_refl _) (fun v' hv=>by
     cases hv
     exact .Dz _ 0 AT _ none (AW.AY _ _ _) (.inr ⟨AAT _,ABQ _⟩)) pre _ hc
    have e1:(pre++Value.slice none 0 0::post).length=(pre++Value.slice (some ⟨H.next,0,some 0⟩) 0 AT::post).length:=by simp
    rw[<-e1];exact hc2) rfl rfl rfl (fun _ _ hv=>hv)
  have hcs2:=P0 (ks:=[]) (H':=(H.alloc (.vec k [] false)).put b (.cells (pre++ .slice (some ⟨H.next,0,some 0⟩) 0 AT::post) e ro)) (hcs.mono (h2.keeps _)) hds;have e:cs.map (Iu [])=cs:=by
   refine(AB9 fun f _=>?_).trans (ADN _);cases f;rfl
  rw[e]at hcs2;exact hr base W0 hb0 hok hplan cs0 _ _ cs' W ⟨h3,hlaid.mono h2.le,[],[],.plain fn t n tm todo todo' ds ds' r kd rd rd' (ht.mono h2.le) (hi2.mono h2.le) (hd2.mono h2.le) (hr2.mono h2.le),hcs2,by simp⟩
 | drawn fn t n tm ops BP idx D G k k' ds ds' kd rd rd' hD hk2 hd2 hr2=>cases hd
theorem BA.xx{X:Ctx}{N:Nat}{Φ:Cy}{fn:FuncId}{t:Tr Value}{n:Nat}{todo:List Cs}{ds:List Deferred}{r:Bool}{kd:CallKind}{rd:Option Nat}{cs:List Ae}{H:AA}(b j:Nat)(k:EK)(pre post:AL){e:Nat}{ro:Bool}{b' o m cap:Nat}{s:Option Nat}(hd:Df todo=true)(hds:(cs.all fun f=>Df f.todo)=true)(hj:look t j= .slice (some ⟨b',o,s⟩) m cap)(hb:H.get b=some (.cells (pre++ .slice none 0 0::post) e ro))(hk:k.length≠0)(hr:BA X N ⟨⟨fn,t,n,todo,ds,r,kd,rd⟩,cs,(H.alloc (.vec k [] false)).put b (.cells (pre++ .slice (some ⟨H.next,0,some 0⟩) 0 AT::post) e ro)⟩ Φ):BA X N ⟨⟨fn,t,n,todo,ds,r,kd,rd⟩,cs,H⟩ Φ:=
 SL b j k pre post hd hds (fun _ _ h=>by rw[hj]at h;obtain⟨T,hT⟩:=Hu h;exact⟨_,T,hT⟩) hb hk hr
theorem BA.cP{X:Ctx}{N:Nat}{Φ:Cy}{fn:FuncId}{t:Tr Value}{n:Nat}{todo:List Cs}{ds:List Deferred}{r:Bool}{kd:CallKind}{rd:Option Nat}{cs:List Ae}{H:AA}(b j:Nat)(k:EK)(pre post:AL){e:Nat}{ro:Bool}{b' o:Nat}{s:Option Nat}(hd:Df todo=true)(hds:(cs.all fun f=>Df f.todo)=true)(hj:look t j= .pointer (some ⟨b',o,s⟩))(hb:H.get b=some (.cells (pre++ .slice none 0 0::post) e ro))(hk:k.length≠0)(hr:BA X N ⟨⟨fn,t,n,todo,ds,r,kd,rd⟩,cs,(H.alloc (.vec k [] false)).put b (.cells (pre++ .slice (some ⟨H.next,0,some 0⟩) 0 AT::post) e ro)⟩ Φ):BA X N ⟨⟨fn,t,n,todo,ds,r,kd,rd⟩,cs,H⟩ Φ:=
 SL b j k pre post hd hds (fun _ _ h=>by rw[hj]at h;obtain⟨T,hT⟩:=Jr h;exact⟨_,T,hT⟩) hb hk hr
section
variable {X:Ctx}{N:Nat}{D:Nat->Prop}{f:FuncId}{Q Q':H5}
end
theorem AH.ig{base:Env}{W0 W:World}{Z:AW}{H:AA}(h:AH base W0 Z H W){b n len cap e:Nat}{k:EK}{l:List (EK.C k)}{ro ro2:Bool}{pre post:AL}(hb:H.get b=some (.cells (pre++ .slice (some ⟨n,0,none⟩) len cap::post) e ro))(hn:H.get n=some (.vec k l ro2))(h0:0 < cap)(hl:len<=cap)(hlen:cap<=l.length)(hcap:cap<=9223372036854775807)(hk0:0 < k.length:=by decide):
 AH base W0 Z (H.put b (.cells (pre++ .slice (some ⟨n,0,some 0⟩) len AT::post) e ro)) W:=by
 refine h.swap hb (fun T o' _ ho=>?_) rfl rfl rfl (fun _ _ hv=>hv);cases ho with
 | cells _ _ _ c t lo hi he hc hr hf=>
  refine .cells T _ e ro c t lo hi he ?_ hr hf;have hc2:=K5 (a1:= .slice (some ⟨n,0,some 0⟩) len AT) (AW.le_refl _) (fun v' hv=>by
   cases hv with
   | slice _ _ _ _ cap' o' T' hm hcr ho=>
    have hcu:cap < AT:=by unfold AT;omega
    have hcap':cap'=cap:=by
     rcases hcr with⟨_,h2⟩ | ⟨h2,_⟩
     .exact h2
     .omega
    subst hcap';have hel:=h.elem hn hm;obtain⟨q,hq,hor⟩:=h.obj n _ hn T' hm;have Ji:l.length * k.length<=T'.r:=by
     cases hor with
     | vec _ _ _ _ hcs=>cases hcs with
      | cells _ _ _ c2 t2 lo2 hi2 he2 hc2 hr2 hf2=>
       have:=hc2.length;have e2:c2.toList.length=T'.d+T'.r:=by rw[AAy];exact hr2
       have e3:(Ac k l).length=l.length * k.length:=A7 _ _;rw[AAh,AAo,e2,e3]at this;omega
     | D7 _ _ _ _ _ _=>simp at hlen;omega
    have hmul:cap' * k.length<=T'.r:=ABs (AA9 _ hlen) Ji;have hpos:0 < cap' * k.length:=ACu h0 hk0;refine .Bd n 0 len AT cap' o' T' hm (.inr ⟨AAT _,by omega,hl,by rw[hel];omega,.inr hcap⟩) ?_ (by omega);rcases ho with ho | ho
    .exact .inl (by omega)
    .exact .inr ho) pre _ hc
  have e1:(pre++Value.slice (some ⟨n,0,none⟩) len cap::post).length=(pre++Value.slice (some ⟨n,0,some 0⟩) len AT::post).length:=by simp
  rw[<-e1];exact hc2
end Go.AB
