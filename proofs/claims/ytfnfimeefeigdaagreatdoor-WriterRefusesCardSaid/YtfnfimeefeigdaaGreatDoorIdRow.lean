/-
  Part of the proof: the machine that runs a program by fixed orders, and that each of its runs is a run of the model; or a run of it in parts. No conditions.
-/
import Derived.Test.YtfnfimeefeigdaaGreatDoorIdTell3
import Derived.ProofKit
import Derived.OpenShut
import Derived.LaidMore
import Derived.MakeChecks
import Derived.Carry
import Derived.Lay
namespace Go.AB
def K3(bk:TypeId->DataW Unit->Option (AL)):List (TypeId × Nat × Nat)->List (DataW Unit)->Nat->Option (AL)
 | [],[],_=>some []
 | (t,o,n)::r,d::ds,at'=>bif Nat.beq o at' then
  match bk t d with
  | some c=>bif Nat.beq c.length n then
   match K3 bk r ds (at'+n)with
   | some l=>some (c++l)
   | none=>none
   else none
  | none=>none
  else none
 | _,_,_=>none
def back(P:Program):Nat->TypeId->DataW Unit->Option (AL)
 | 0,_,_=>none
 | f+1,t,d=>match P.underlying t,d with
  | some .bool,.lit (.bool b)=>some [.bool b]
  | some (.int _),.lit (.int k n)=>some [.int k n]
  | some .string,.lit (.string s)=>some [.string ⟨⟨s⟩⟩]
  | some (.struct fs),.agg ds=>match K3 (back P f) (fs.toList.map fun x=>(x.type,x.offset,P.cellsOf x.type)) ds 0 with
   | some l=>bif Nat.beq l.length (P.cellsOf t)then some l else none
   | none=>none
  | some (.array n e),.agg ds=>match K3 (back P f) ((List.range n).map fun i=>(e,i * P.cellsOf e,P.cellsOf e)) ds 0 with
   | some l=>bif Nat.beq l.length (P.cellsOf t)then some l else none
   | none=>none
  | _,_=>none
theorem Sg{bk:TypeId->DataW Unit->Option (AL)}{T:TypeId->AL->Option (DataW Unit × List MemPlace)}(hT:∀t cs d ps l,T t cs=some (d,ps)->bk t d=some l->cs=l)(cs:AL):
 ∀(L:List (TypeId × Nat × Nat))(xs:List (DataW Unit × List MemPlace))(o:Nat)(out:AL),L.mapM (fun p=>T p.1 ((cs.drop p.2.1).take p.2.2))=some xs->K3 bk L (xs.map (·.1)) o=some out->cs.drop o=out++cs.drop (o+out.length):=by
 intro L;induction L with
 | nil=>
  intro xs o out h1 h2;simp at h1;subst h1;simp[K3]at h2;subst h2;simp
 | cons p L ih=>
  intro xs o out h1 h2;obtain⟨t,o',n⟩:=p;simp only[ACW,ACR,ACi,ABu]at h1;obtain⟨x,hx,ys,hys,h1⟩:=h1;cases h1
  simp only[AAn,K3]at h2;cases hb:Nat.beq o' o
  .rw[hb]at h2;cases h2
  .rw[hb]at h2;simp only[AAO]at h2;obtain rfl:=AAP hb;split at h2
   .rename_i c hc;cases hl:Nat.beq c.length n
    .rw[hl]at h2;cases h2
    .rw[hl]at h2;simp only[AAO]at h2;obtain rfl:=AAP hl;split at h2
     .rename_i l hl2;cases h2
      have e1:(cs.drop o').take c.length=c:=hT t _ x.1 x.2 c hx hc;have e2:=ih ys _ l hys hl2;have e3:cs.drop o'=c++cs.drop (o'+c.length):=by
       rw[<-ACV]
       conv=>lhs;rw[<-ADK c.length (cs.drop o')]
       rw[e1]
      rw[e3,e2];simp[Nat.add_assoc]
     .cases h2
   .cases h2
theorem Sj{α β γ:Type}(g:α->β)(f:β->Option γ):∀l:List α,(l.map g).mapM f=l.mapM fun x=>f (g x):=by
 intro l;induction l with
 | nil=>rfl
 | cons a l ih=>simp only[AAn,ACW,ih]
theorem me{P:Program}{w:World}{base:Nat}{sp:Nat->Bool}:∀(f fuel:Nat)(t:TypeId)(cs:AL)(d:DataW Unit)(ps:List MemPlace)(l:AL),DataW.trod (fun _=>()) P w base sp false fuel t cs=some (d,ps)->back P f t d=some l->cs=l:=by
 intro f;induction f with
 | zero=>intro fuel t cs d ps l _ h;cases h
 | succ f ih=>
  intro fuel t cs d ps l h hb;cases fuel with
  | zero=>cases h
  | succ fuel=>
   unfold back at hb;split at hb
   .rename_i b hu;cases hb
    unfold DataW.trod at h;rw[hu]at h;simp only at h;split at h<;>first | (simp at h;done) | skip
    all_goals (try (rename_i e1 _;cases e1;done))
    all_goals (try (cases h;done))
    all_goals first
     | (cases h;rfl)
     | simp_all
   .rename_i k0 k n hu;cases hb
    unfold DataW.trod at h;rw[hu]at h;simp only at h;split at h
    all_goals first
     | (split at h;· rename_i hc;cases h;rw[hc.1];· cases h)
     | simp_all
   .rename_i s hu;cases hb
    unfold DataW.trod at h;rw[hu]at h;simp only at h;split at h
    all_goals first
     | (split at h;· cases h;rfl;· cases h)
     | (simp_all;done)
     | (simp_all;obtain⟨_,rfl,_⟩:=h;rfl)
   .rename_i fs ds hu;split at hb
    .rename_i l2 hl2;cases hn:Nat.beq l2.length (P.cellsOf t)
     .rw[hn]at hb;cases hb
     .rw[hn]at hb;cases hb
      have hlen:=AAP hn;have h':=h;unfold DataW.trod at h';simp only[hu]at h';have key:∃xs,(fs.toList.mapM fun f=>DataW.trod (fun _=>()) P w base sp false fuel f.type ((cs.drop f.offset).take (P.cellsOf f.type)))=some xs/\ds=xs.map (·.1)/\cs.length=P.cellsOf t:=by
       by_cases hc:cs.length=P.cellsOf t
       .rw[AAZ hc,AAV]at h';obtain⟨xs,hxs,e⟩:=h';cases e
        exact⟨xs,hxs,rfl,hc⟩
       .rw[AAW hc]at h';cases h'
      obtain⟨xs,hxs,rfl,hcl⟩:=key;have hxs':(fs.toList.map fun x=>(x.type,x.offset,P.cellsOf x.type)).mapM (fun p=>DataW.trod (fun _=>()) P w base sp false fuel p.1 ((cs.drop p.2.1).take p.2.2))=some xs:=by
       rw[Sj];exact hxs
      have:=Sg (fun t cs d ps l=>ih fuel t cs d ps l) cs _ xs 0 l hxs' hl2;simp only[AA5,AAj]at this;rw[this,ABp (by omega),ABq]
    .cases hb
   .rename_i n e ds hu;split at hb
    .rename_i l2 hl2;cases hn:Nat.beq l2.length (P.cellsOf t)
     .rw[hn]at hb;cases hb
     .rw[hn]at hb;cases hb
      have hlen:=AAP hn;have h':=h;unfold DataW.trod at h';simp only[hu]at h';have key:∃xs,((List.range n).mapM fun i=>DataW.trod (fun _=>()) P w base sp false fuel e ((cs.drop (i * P.cellsOf e)).take (P.cellsOf e)))=some xs/\ds=xs.map (·.1)/\cs.length=P.cellsOf t:=by
       by_cases hc:cs.length=P.cellsOf t
       .rw[AAZ hc,AAV]at h';obtain⟨xs,hxs,e⟩:=h';cases e
        exact⟨xs,hxs,rfl,hc⟩
       .rw[AAW hc]at h';cases h'
      obtain⟨xs,hxs,rfl,hcl⟩:=key;have hxs':((List.range n).map fun i=>(e,i * P.cellsOf e,P.cellsOf e)).mapM (fun p=>DataW.trod (fun _=>()) P w base sp false fuel p.1 ((cs.drop p.2.1).take p.2.2))=some xs:=by
       rw[Sj];exact hxs
      have:=Sg (fun t cs d ps l=>ih fuel t cs d ps l) cs _ xs 0 l hxs' hl2;simp only[AA5,AAj]at this;rw[this,ABp (by omega),ABq]
    .cases hb
   .cases hb
def ik(P:Program)(x:String × DataW Unit):Option (Nat × AL):=
 (P.globalNamed x.1).bind fun g=>((P.globals[g]?).map (·.type)).bind fun t=>(back P 12 t x.2).map fun l=>(g,l)
def Gp(W:World):Env:=⟨fun i=>i < W.heap.size,fun _=>none⟩
def FX(W W':World):Prop:=W'.os=W.os/\W'.output=W.output/\W.heap.size<=W'.heap.size/\∀i,i < W.heap.size->W'.heap[i]? = W.heap[i]?
theorem FX.refl(W:World):FX W W:=⟨rfl,rfl,AAT _,fun _ _=>rfl⟩
theorem AH.mW{W W':World}{Z:AW}{H:AA}(h:AH (Gp W) W Z H W'):FX W W':=⟨h.os,h.out,h.grow,h.below⟩
theorem FX.keptBut{W W':World}(h:FX W W')(may:MemPlace->Prop):W.keptBut W' may:=by
 refine⟨h.1,h.2.1,fun i hi=>?_⟩;rw[h.2.2.2 i hi];exact(World.keptBut_refl W may).2.2 i hi
theorem V6{H:Type}{enc:TypeId × Value->H}{P:Program}{f:Func}{s:ChangeSpec}{apart fresh handsOn again:Bool}{W W':World}{args:BE}{v:Value}{ds gs:List (DataW H)}{before pa pv:List MemPlace}(hW:DataW.Whole enc P f.params.toList s.vars apart W args.toList ds gs before)(hres:∀(b:Nat)(sp:Nat->Bool)(hd:Bool),DataW.TrodAll enc P W' b sp hd f.resultTypes.toList (v.resultList f.resultTypes.size) (s.fn H (ds++gs)).results [])(hargs:∀sp:Nat->Bool,(∀p∈before,sp p.block=true)->DataW.TrodAll enc P W' 0 sp true f.params.toList args.toList (s.fn H (ds++gs)).args pa)(hvars:∀sp:Nat->Bool,(∀p∈before,sp p.block=true)->DataW.TrodVars enc P W' sp s.vars (s.fn H (ds++gs)).vars pv)(hps:before=pa++pv)(hk:FX W W')(hok:∀(j:Nat)(t:TypeId)(r:Value),f.resultTypes[j]? = some t->(v.resultList f.resultTypes.size)[j]? = some r->Value.okWide P W' .any 0 t r):
 s.post enc P f apart fresh handsOn again W args v W':=by
 have hold:∀p∈before,(fun b=>decide (b < W.heap.size)) p.block=true:=fun p hp=>by simpa using hW.lt p hp
 have hlt:∀p∈before,p.block < W.heap.size:=fun p hp=>hW.lt p hp
 refine⟨ds,gs,before,[],pa,pv,hW,hres _ _ _,hargs _ hold,hvars _ hold,World.keptBut_mono (fun p hp=>⟨hp,?_⟩) (hk.keptBut (·∈before)),fun _=>?_⟩
 .rw[hps,ACj]at hp;exact Or.inr hp
 .obtain⟨_,_,_,_,_,hz,hn⟩:=hW;refine⟨hok,_,_,([]++pa)++pv,⟨[]++pa,pv,ChangeShapes.trodAll_append (hargs _ (fun _ _=>rfl)) (hres _ _ _),hvars _ (fun _ _=>rfl),rfl,?_,?_⟩,?_⟩
  .intro b off hp;have hp':MemPlace.cell b off∈before:=by rw[hps];simpa using hp
   have:=hz b off hp';have hb:b < W.heap.size:=hlt _ hp';unfold World.frozen? at this ⊢;simp only at this ⊢;rw[hk.2.2.2 b hb];exact this
  .intro ha;have:=hn ha;rw[hps]at this;simpa using this
  .intro p hp _;rw[hps];simpa using hp
theorem FX.sameAt{W W':World}(h:FX W W'){p:MemPlace}(hp:p.block < W.heap.size):W.sameAt W' p:=by
 cases p with
 | cell b o=>exact World.cell?_of_block (w:=W) (h.2.2.2 b hp)
 | map b=>exact h.2.2.2 b hp
theorem OM{H:Type}{enc:TypeId × Value->H}{P:Program}{W W':World}(hl:laidOutB P=true)(hk:FX W W'){sp:Nat->Bool}:∀(ts:List TypeId)(vs:AL)(ds:List (DataW H))(ps:List MemPlace),
 (∀t∈ts,P.readableRec t=true/\t < P.types.size)->DataW.TrodAll enc P W 0 (fun _=>true) true ts vs ds ps->(∀p∈ps,p.block < W.heap.size)->(∀p∈ps,sp p.block=true)->DataW.TrodAll enc P W' 0 sp true ts vs ds ps
 | [],vs,ds,ps,_,h,_,_=>by
  cases vs with
  | nil=>cases ds with
   | nil=>exact h
   | cons=>exact h
  | cons=>exact h
 | t::ts,vs,ds,ps,hr,h,hlt,hsp=>by
  cases vs with
  | nil=>exact h
  | cons v vs=>cases ds with
   | nil=>exact h
   | cons d ds=>
    obtain⟨p,q,h1,h2,rfl⟩:=h;refine⟨p,q,WideElems.Trod_stays hl (hr t (by simp)).1 (hr t (by simp)).2 h1 (fun x hx=>hk.sameAt (hlt x (by simp[hx]))) (fun x hx=>hsp x (by simp[hx])),?_,rfl⟩;exact OM hl hk ts vs ds q (fun t ht=>hr t (by simp[ht])) h2 (fun x hx=>hlt x (by simp[hx])) (fun x hx=>hsp x (by simp[hx]))
theorem lX{H:Type}{enc:TypeId × Value->H}{P:Program}{f:Func}{s:ChangeSpec}{apart fresh handsOn again:Bool}{W W':World}{args:BE}{ds gs:List (DataW H)}{before:List MemPlace}{tb:TypeId}(hW:DataW.Whole enc P f.params.toList s.vars apart W args.toList ds gs before)(hv:s.vars=[])(hs:gs=[]->(s.fn H (ds++gs)).results=[.lit (.bool true)]/\(s.fn H (ds++gs)).args=ds/\(s.fn H (ds++gs)).vars=[])(hr:f.resultTypes=#[tb])(hb:P.underlying tb=some .bool)(hl:laidOutB P=true)(hrd:∀t∈f.params.toList,P.readableRec t=true/\t < P.types.size)(hk:FX W W'):
 s.post enc P f apart fresh handsOn again W args (.bool true) W':=by
 have hW':=hW;obtain⟨p,q,hA,hV,rfl,_,_⟩:=hW;rw[hv]at hV;obtain⟨rfl,rfl⟩:=ChangeShapes.trodVars_none hV;obtain⟨s1,s2,s3⟩:=hs rfl;have hlt:∀x∈p,x.block < W.heap.size:=fun x hx=>hW'.lt x (by simp[hx])
 refine V6 (pa:=p) (pv:=[]) hW' (fun b sp hd=>?_) (fun sp hsp=>?_) (fun sp _=>?_) rfl hk ?_
 .rw[s1,hr];exact ChangeShapes.trodAll_mk1 (RowKit.shut_bool hb true)
 .rw[s2];exact OM hl hk _ _ _ _ hrd hA hlt (fun x hx=>hsp x (by simp[hx]))
 .rw[s3,hv];exact rfl
 .exact RowKit.ok_one hr rfl (RowKit.okWide_bool_mk hb true)
inductive Fits(P:Program)(W:World)(r:Go.Reach)(base:Nat):List TypeId->AL->Prop where
 | nil:Fits P W r base [] []
 | cons {u:TypeId} {v:Value} {us:List TypeId} {vs:AL} (h:Cell.okWide P W r base u v) (t:Fits P W r base us vs):Fits P W r base (u::us) (v::vs)
theorem ak{P:Program}{W:World}{r:Go.Reach}{base:Nat}:∀(ts:List TypeId)(vs:AL),vs.length=ts.length->(∀(i:Nat) v,vs[i]? = some v->∃u,ts[i]? = some u/\Cell.okWide P W r base u v)->Fits P W r base ts vs
 | [],[],_,_=> .nil
 | t::ts,v::vs,hl,h=>by
  obtain⟨u,h1,h2⟩:=h 0 v rfl;cases h1
  exact .cons h2 (ak ts vs (by simpa using hl) fun i x hx=>h (i+1) x hx)
theorem fR{P:Program}{W:World}{r:Go.Reach}{base:Nat}{t:TypeId}{v:Value}{ts:List TypeId}(hs:(match P.underlying t with | some (.struct _)=>true | some (.array _ _)=>true | _=>false)=true)(hts:P.cellTypes P.depth t=some ts)(hn:P.cellsOf t=ts.length)(h:Value.okWide P W r base t v):
 ∃cs:AL,v= .agg ⟨cs⟩/\Fits P W r base ts cs:=by
 unfold Value.okWide at h;have key:∃cs,v= .agg cs/\cs.size=P.cellsOf t/\Row.okWide P W r base t cs:=by
  split at h
  .exact h
  .exact h
  .rename_i h1 h2;split at hs
   .rename_i x e;exact absurd e (h1 x)
   .rename_i n e e';exact absurd e' (h2 n e)
   .cases hs
 obtain⟨cs,rfl,hsz,ts',h1,_,h3⟩:=key;rw[hts]at h1;cases h1
 refine⟨cs.toList,rfl,ak ts _ (by simpa [<-hn] using hsz) fun i v hv=>?_⟩;rw[AAx]at hv;obtain⟨u,h4,h5⟩:=h3 i v hv;have hi:i < ts.length:=by
  have:=(Array.getElem?_eq_some_iff.1 hv).1;omega
 rw[Nat.mod_eq_of_lt hi]at h4;exact⟨u,h4,h5⟩
theorem Iq{P:Program}{W:World}{r:Go.Reach}{base:Nat}{t:TypeId}{v:Value}{k:IntKind}(ht:P.underlying t=some (.int k))(h:Cell.okWide P W r base t v):∃n,v= .int k n/\k.has n:=by
 unfold Cell.okWide Cell.ok at h;rw[ht]at h
 cases v<;>simp at h ⊢
 obtain⟨rfl,h⟩:=h;simp[h]
theorem AH.name{base:Env}{W0:World}{Z:AW}{H:AA}{W:World}(h:AH base W0 Z H W)(T:BQ)(hT:T.c < W.heap.size):AH base W0 (Z.ext H.next T) ⟨H.m,H.next+1⟩ W:=by
 have hle:Z.le (Z.ext H.next T):=AW.CV T (h.fresh _ (AAT _)).2;have key:∀b o,(⟨H.m,H.next+1⟩:AA).get b=some o->H.get b=some o/\b≠H.next:=by
  intro b o e;have e':H.get b=some o:=e;exact⟨e',by rintro rfl;rw[(h.fresh _ (AAT _)).1]at e';cases e'⟩
 have back:∀b o T',(⟨H.m,H.next+1⟩:AA).get b=some o->(Z.ext H.next T) b=some T'->H.get b=some o/\Z b=some T':=by
  intro b o T' e1 e2;obtain⟨h1,h2⟩:=key b o e1;rw[AW.BB _ _ h2]at e2;exact⟨h1,e2⟩
 refine⟨?_,?_,?_,?_,?_,h.size,h.below,h.out,h.os,?_,AW.le_trans h.le hle,h.grow⟩
 .intro b o hb T' hT';obtain⟨h1,h2⟩:=back b o T' hb hT';obtain⟨o',r1,r2⟩:=h.obj b o h1 T' h2;exact⟨o',r1,r2.mono hle⟩
 .intro b o hb hr T' hT';obtain⟨h1,h2⟩:=back b o T' hb hT';exact h.own b o h1 hr T' h2
 .intro b1 b2 o1 o2 h1 h2 T1 T2 m1 m2 hc;obtain⟨a1,a2⟩:=back b1 o1 T1 h1 m1;obtain⟨c1,c2⟩:=back b2 o2 T2 h2 m2;exact h.inj b1 b2 o1 o2 a1 c1 T1 T2 a2 c2 hc
 .intro b hb;have hb:H.next+1<=b:=hb;exact⟨(h.fresh b (by omega)).1,by rw[AW.BB _ _ (by omega)];exact(h.fresh b (by omega)).2⟩
 .intro b T' hT'
  by_cases e:b=H.next
  .subst e;rw[AW.AY]at hT';cases hT';exact hT
  .rw[AW.BB _ _ e]at hT';exact h.bound b T' hT'
 .obtain⟨φ,q⟩:=h.abs;refine⟨φ,fun b a ro T' h1 h2=>?_,fun b a ro T' h1 h2 b2 o2 T2 h3 h4 hne=>?_⟩
  .obtain⟨a1,a2⟩:=back b _ T' h1 h2;exact(q.rep b a ro T' a1 a2).imp_left (Ga.mono hle)
  .obtain⟨a1,a2⟩:=back b _ T' h1 h2;obtain⟨c1,c2⟩:=back b2 _ T2 h3 h4;exact q.C3 b a ro T' a1 a2 b2 o2 T2 c1 c2 hne
end Go.AB
