/-
  Part of the proof: fixed runs of a program. No conditions.
-/
import Derived.Test.YtfnfimeefeigdaaGreatDoorIdRow
import Derived.Test.YtfnfimeefeigdaaGreatDoorIdTell3
import Derived.Test.YtfnfimeefeigdaaGreatDoorLxb
import Derived.Test.YtfnfimeefeigdaaGreatDoorAbr
import Derived.WalkKit
import Derived.Lib.Walk
import Derived.Lib.SliceRun
import Derived.Lib.JoinLaws
import Derived.Lib.AppendZeros
import Derived.Lib.AppendZerosOnto
import Derived.Lib.Overlaps
import Derived.Laws.Externs
import Derived.Laws.IdiomCopy
import Derived.Laws.NewBlocks
import Derived.Shelf.RegionOpenPlain
import Derived.Shelf.Spec.SlicesInsert
import Derived.Test.YtfnfimeefeigdaaGreatDoorChecked
import Derived.Test.YtfnfimeefeigdaaGreatDoorIdDrawn
noncomputable section
set_option maxRecDepth 1000000
namespace Go.AB
def PG(P:Program)(x:String × DataW Unit):Option (Nat × AL):=
 match x.2 with
 | .iface _ _=>(P.globalNamed x.1).map fun g=>(g,[Bo])
 | _=>match ik P x with
  | some p=>bif p.2.all flat then some p else none
  | none=>none
theorem YY{P:Program}{w:World}{sp:Nat->Bool}{fuel:Nat}{t:TypeId}{cs:AL}{nm:String}{d:DataW Unit}{ps:List MemPlace}(h:DataW.trod (fun _=>()) P w 0 sp false fuel t cs=some (.iface nm d,ps)):∃te pe,cs=[.iface te pe]:=by
 cases fuel with
 | zero=>cases h
 | succ fuel=>
  unfold DataW.trod at h;split at h
  all_goals first
   | (exact⟨_,_,rfl⟩)
   | (cases h;done)
   | (exfalso;simp[Option.bind_eq_some_iff]at h;done)
   | (exfalso;split at h<;>simp[Option.bind_eq_some_iff]at h;done)
   | (exfalso;split at h<;>(try split at h)<;>(try simp[Option.map_eq_some_iff,Option.bind_eq_some_iff]at h);done)
theorem U8{P:Program}{w:World}:∀(laid:List (String × DataW Unit))(ps:List MemPlace),DataW.LaidVars P w laid ps->∀(n:Nat)(x:String × DataW Unit)(p:Nat × AL),laid[n]? = some x->PG P x=some p->∃a t fz,w.heap[p.1]? = some (.cells a t fz)/\Oc p.2 a.toList:=by
 intro laid;induction laid with
 | nil=>intro ps _ n x p hx;simp at hx
 | cons y laid ih=>
  intro ps hl n x p hx h0;obtain⟨nm,d⟩:=y;obtain⟨g,t,cs,fuel,p1,q1,h1,h2,h3,h4,h5,_⟩:=hl;cases n with
  | zero=>
   simp only[ABg,AAN]at hx;subst hx;simp only[World.var?,h1,AAv]at h3;split at h3
   .rename_i cs' t' fz hh;cases h3
    unfold PG at h0;simp only at h0;split at h0
    .rename_i nm2 d2;rw[h1]at h0;cases h0
     obtain⟨te,pe,e⟩:=YY h4;exact⟨_,_,_,hh,by rw[e];exact .iface te pe⟩
    .split at h0
     .rename_i p0 hp0;cases hf:p0.2.all flat
      .rw[hf]at h0;cases h0
      .rw[hf]at h0;cases h0
       simp only[ik,h1,AAv,h2,AAV]at hp0;obtain⟨l,hl,rfl⟩:=hp0;exact⟨_,_,_,hh,by rw[me 12 fuel t _ d p1 l h4 hl];exact .plain _ hf⟩
     .cases h0
   .cases h3
  | succ n=>exact ih q1 h5 n x p (by simpa using hx) h0
theorem gA{X:Ctx}{laid:List (String × DataW Unit)}{W:World}(hL:laidMetH X.P laid W)(hp:(laid.all fun x=>x.2.handleName?.isNone)=true)(ns:AP)(hm:(ns.map fun n=>(laid[n]?).bind (PG X.P))=X.laid.map some)(hnd:(X.laid.map Prod.fst).Nodup):Dt X (Gp W) W:=by
 rw[MakeChecks.laidMetH_plain _ _ _ hp]at hL;obtain⟨ps,h1,_⟩:=hL;refine⟨hnd,fun p hp=>?_⟩;have hmem:some p∈ns.map fun n=>(laid[n]?).bind (PG X.P):=by rw[hm];exact List.mem_map_of_mem hp
 obtain⟨n,_,hn⟩:=List.mem_map.1 hmem;rw[ABu]at hn;obtain⟨x,hx,hxp⟩:=hn;obtain⟨a,t,fz,h2,h3⟩:=U8 laid ps h1 n x p hx hxp;refine⟨?_,a,t,fz,h2,h3⟩;exact(Array.getElem?_eq_some_iff.1 h2).1
end Go.AB
namespace Go.AB
open Go.ChangeShapes
def WL(P:Program):Nat->TypeId->Option (List (Nat × SK))
 | 0,_=>none
 | f+1,t=>match P.underlying t with
  | some (.int k)=>some [(0,.int k)]
  | some .bool=>some [(0,.bool)]
  | some .string=>some [(0,.str)]
  | some (.struct fields)=>(fields.toList.mapM fun fd=>(WL P f fd.type).map fun l=>l.map fun p=>(fd.offset+p.1,p.2)).map List.flatten
  | some (.array n e)=>((List.range n).mapM fun i=>(WL P f e).map fun l=>l.map fun p=>(i * P.cellsOf e+p.1,p.2)).map List.flatten
  | _=>none
def SK.NG:(s:SK)->s.C->Prop
 | .int k,n=>(Lit.int k n).wf=true
 | .str,s=>s.size<=maxLen
 | _,_=>True
def EK.NG:(k:EK)->EK.C k->Prop
 | [],_=>True
 | [s],x=>s.NG x
 | s::t::r,x=>s.NG x.1/\EK.NG (t::r) x.2
section
variable {P:Program}{w:World}{H:Type}{enc:TypeId × Value->H}
theorem mapM_mem{α β:Type}{f:α->Option β}:∀{l:List α}{m:List β},l.mapM f=some m->∀x∈l,∃y,f x=some y
 | [],_,_,x,hx=>by cases hx
 | a::l,m,h,x,hx=>by
  rw[ACW]at h;cases ha:f a with
  | none=>rw[ha]at h;simp at h
  | some y=>
   rw[ha]at h;simp only[ACi,ACR,AAv]at h;cases hl:l.mapM f with
   | none=>rw[hl]at h;simp at h
   | some m'=>
    rcases List.mem_cons.1 hx with rfl | hx
    .exact⟨y,ha⟩
    .exact mapM_mem hl x hx
theorem mapM_flat{α β:Type}{f:α->Option (List β)}:∀{l:List α}{m:List (List β)},l.mapM f=some m->∀y∈m.flatten,∃x∈l,∃z,f x=some z/\y∈z
 | [],m,h,y,hy=>by
  simp at h;subst h;simp at hy
 | a::l,m,h,y,hy=>by
  rw[ACW]at h;cases ha:f a with
  | none=>rw[ha]at h;simp at h
  | some z=>
   rw[ha]at h;simp only[ACi,ACR,AAv]at h;cases hl:l.mapM f with
   | none=>rw[hl]at h;simp at h
   | some m'=>
    rw[hl]at h;simp only[AAv,AAN]at h;subst h;rw[List.flatten_cons,ACj]at hy;rcases hy with hy | hy
    .exact⟨a,by simp,z,ha,hy⟩
    .obtain⟨x,h1,z2,h2,h3⟩:=mapM_flat hl y hy;exact⟨x,by simp[h1],z2,h2,h3⟩
theorem Ld{α:Type}{l:List α}{o n i:Nat}{x:α}(h:((l.drop o).take n)[i]? = some x):l[o+i]? = some x:=by
 rw[ABO]at h;split at h
 .rwa [ABP]at h
 .cases h
theorem Qs{α β:Type}{f:α->Option β}:∀{l:List α}{m:List β},l.mapM f=some m->m.length=l.length
 | [],m,h=>by simp at h;subst h;rfl
 | a::l,m,h=>by
  rw[ACW]at h;cases ha:f a with
  | none=>rw[ha]at h;simp at h
  | some y=>
   rw[ha]at h;simp only[ACi,ACR,AAv]at h;cases hl:l.mapM f with
   | none=>rw[hl]at h;simp at h
   | some m'=>
    rw[hl]at h;simp only[AAv,AAN]at h;subst h;simp[Qs hl]
theorem cS{base:Nat}{sp:Nat->Bool}{held:Bool}:∀(f:Nat)(t:TypeId)(K:List (Nat × SK)),WL P f t=some K->∀(fuel:Nat)(cs:AL)(d:DataW H)(ps:List MemPlace),DataW.trod enc P w base sp held fuel t cs=some (d,ps)->
 ∀p∈K,∃x:p.2.C,cs[p.1]? = some (p.2.enc x)/\p.2.NG x:=by
 intro f;induction f with
 | zero=>intro t K h;cases h
 | succ f ih=>
  intro t K hK fuel cs d ps h p hp;cases fuel with
  | zero=>cases h
  | succ fuel=>
   unfold WL at hK;unfold DataW.trod at h;cases hu:P.underlying t with
   | none=>rw[hu]at hK;cases hK
   | some D=>
    rw[hu]at hK h;cases D with
    | int k=>
     simp only[AAN]at hK;subst hK;simp only[AAg]at hp;subst hp;simp only at h;split at h
     all_goals first
      | (split at h;· rename_i hc;obtain⟨rfl,hc2⟩:=hc;simp_all only[TypeDesc.int.injEq,AAN];exact⟨_,rfl,hc2⟩;· cases h)
      | (simp_all;done)
      | (simp_all;subst_vars;exact⟨_,rfl,h.1.2⟩)
    | bool=>
     simp only[AAN]at hK;subst hK;simp only[AAg]at hp;subst hp;simp only at h;split at h
     all_goals first
      | (simp_all;done)
      | exact⟨_,rfl,trivial⟩
    | string=>
     simp only[AAN]at hK;subst hK;simp only[AAg]at hp;subst hp;simp only at h;split at h
     all_goals first
      | (split at h;· rename_i hc;exact⟨_,rfl,hc⟩;· cases h)
      | (simp_all;done)
      | (simp_all;exact⟨_,rfl,h.1⟩)
    | struct fs=>
     simp only[AAV]at hK;obtain⟨m,hm,rfl⟩:=hK;obtain⟨fd,hfd,z,hz,hpz⟩:=mapM_flat hm p hp;simp only[AAV]at hz;obtain⟨l,hl,rfl⟩:=hz;obtain⟨q,hq,rfl⟩:=List.mem_map.1 hpz;have key:∃xs,(fs.toList.mapM fun f=>DataW.trod enc P w base sp held fuel f.type ((cs.drop f.offset).take (P.cellsOf f.type)))=some xs:=by
      simp only at h
      by_cases hc:cs.length=P.cellsOf t
      .rw[AAZ hc,AAV]at h;obtain⟨xs,hxs,_⟩:=h;exact⟨xs,hxs⟩
      .rw[AAW hc]at h;cases h
     obtain⟨xs,hxs⟩:=key;obtain⟨⟨d2,ps2⟩,hy⟩:=mapM_mem hxs fd hfd;obtain⟨x,h1,h2⟩:=ih fd.type l hl fuel _ d2 ps2 hy q hq;exact⟨x,Ld h1,h2⟩
    | array n e=>
     simp only[AAV]at hK;obtain⟨m,hm,rfl⟩:=hK;obtain⟨i,hi,z,hz,hpz⟩:=mapM_flat hm p hp;simp only[AAV]at hz;obtain⟨l,hl,rfl⟩:=hz;obtain⟨q,hq,rfl⟩:=List.mem_map.1 hpz;have key:∃xs,((List.range n).mapM fun i=>DataW.trod enc P w base sp held fuel e ((cs.drop (i * P.cellsOf e)).take (P.cellsOf e)))=some xs:=by
      simp only at h
      by_cases hc:cs.length=P.cellsOf t
      .rw[AAZ hc,AAV]at h;obtain⟨xs,hxs,_⟩:=h;exact⟨xs,hxs⟩
      .rw[AAW hc]at h;cases h
     obtain⟨xs,hxs⟩:=key;obtain⟨⟨d2,ps2⟩,hy⟩:=mapM_mem hxs i hi;obtain⟨x,h1,h2⟩:=ih e l hl fuel _ d2 ps2 hy q hq;exact⟨x,Ld h1,h2⟩
    | _=>cases hK
theorem OW:∀(k:EK)(o:Nat)(cs:AL),cs.length=o+k.length->(∀i s,k[i]? = some s->∃x:s.C,cs[o+i]? = some (s.enc x)/\s.NG x)->∃x:EK.C k,cs.drop o=EK.enc k x/\EK.NG k x
 | [],o,cs,hl,_=>⟨(),by rw[ABp (by simp at hl;omega)];rfl,trivial⟩
 | [s],o,cs,hl,h=>by
  obtain⟨x,h1,h2⟩:=h 0 s rfl;refine⟨x,?_,h2⟩;have hlt:o < cs.length:=by simp at hl;omega
  rw[ABm hlt,ABp (by simp at hl;omega)];rw[AB6,AAU hlt]at h1;have h1:=ACJ h1;rw[h1];rfl
 | s::t::r,o,cs,hl,h=>by
  obtain⟨x,h1,h2⟩:=h 0 s rfl;have hlt:o < cs.length:=by simp at hl;omega
  obtain⟨y,h3,h4⟩:=OW (t::r) (o+1) cs (by simp at hl ⊢;omega) (fun i s' hi=>by
   obtain⟨z,e1,e2⟩:=h (i+1) s' (by simpa using hi);exact⟨z,by rw[show o+1+i=o+(i+1)from by omega];exact e1,e2⟩)
  refine⟨(x,y),?_,h2,h4⟩;rw[ABm hlt,h3];rw[AB6,AAU hlt]at h1;have h1:=ACJ h1;rw[h1];rfl
def MW(P:Program)(t:TypeId)(k:EK):Bool:=
 Nat.beq (P.cellsOf t) k.length&& !(Nat.beq k.length 0)&&(match WL P 8 t with | some K=>decide (K.map Prod.fst=List.range k.length)&&decide (K.map Prod.snd=k) | none=>false)
theorem dN{base:Nat}{sp:Nat->Bool}{held:Bool}{t:TypeId}{k:EK}(hk:MW P t k=true){fuel:Nat}{cs:AL}{d:DataW H}{ps:List MemPlace}(hl:cs.length=P.cellsOf t)(h:DataW.trod enc P w base sp held fuel t cs=some (d,ps)):∃x:EK.C k,cs=EK.enc k x/\EK.NG k x:=by
 unfold MW at hk;simp only[AAQ]at hk;obtain⟨⟨h1,_⟩,h2⟩:=hk;have h1:=AAP h1;split at h2
 .rename_i K hK;simp only[AAQ,AAl]at h2;obtain⟨h2,h3⟩:=h2;obtain⟨x,e1,e2⟩:=OW k 0 cs (by rw[hl,h1,AAj]) (fun i s hi=>by
   have hi1:(K.map Prod.snd)[i]? = some s:=by rw[h3];exact hi
   rw[AAi,AAV]at hi1;obtain⟨p,hp,rfl⟩:=hi1;have hi2:(K.map Prod.fst)[i]? = some p.1:=by rw[AAi,hp];rfl
   rw[h2]at hi2;have hlt:i < k.length:=by
    rcases AAt i k.length with q | q
    .exact q
    .rw[AAq q]at hi;cases hi
   rw[ACS hlt]at hi2;have hi2:=ACJ hi2;obtain⟨x,e1,e2⟩:=cS 8 t K hK fuel cs d ps h p (AA1 hp);exact⟨x,by rw[AAj,hi2];exact e1,e2⟩)
  exact⟨x,by rw[<-e1,AA5],e2⟩
 .cases h2
theorem S5{α:Type}{Q:Nat->α->Prop}:∀(n:Nat),(∀i,i < n->∃x,Q i x)->∃l:List α,l.length=n/\∀i x,l[i]? = some x->Q i x
 | 0,_=>⟨[],rfl,fun i x h=>by cases h⟩
 | n+1,h=>by
  obtain⟨l,h1,h2⟩:=S5 n (fun i hi=>h i (by omega));obtain⟨x,hx⟩:=h n (by omega);refine⟨l++[x],by simp[h1],fun i y hi=>?_⟩;rw[List.getElem?_append]at hi;split at hi
  .exact h2 i y hi
  .rename_i hlt;have:i - l.length=0:=by
    rcases AB4 (i - l.length)with q | q
    .exact q
    .rw[AAq (by simp;omega)]at hi;cases hi
   rw[this]at hi;have hi:x=y:=by simpa using hi
   subst hi;have:i=n:=by omega
   rw[this];exact hx
theorem trod_slice{t e:TypeId}{k:EK}(hu:P.underlying t=some (.slice e))(hk:MW P e k=true){held:Bool}{fuel:Nat}{v:Value}{d:DataW H}{ps:List MemPlace}(h:DataW.trod enc P w 0 (fun _=>true) held fuel t [v]=some (d,ps)):
 v= .slice none 0 0\/∃a len cap,v= .slice (some a) len cap/\len<=cap/\cap<=maxLen/\∃l:List (EK.C k),l.length=cap/\∀i x,l[i]? = some x->(w.cells? 0 (a.add (i * k.length)) k.length=some (EK.enc k x)/\EK.NG k x):=by
 cases fuel with
 | zero=>cases h
 | succ fuel=>
  have hcl:P.cellsOf e=k.length:=by
   unfold MW at hk;simp only[AAQ]at hk;exact AAP hk.1.1
  unfold DataW.trod at h;rw[hu]at h;simp only at h;split at h
  all_goals try (simp_all;done)
  .rename_i _ e2 a len cap he hcs;have he:e=e2:=by simpa using he
   subst he;right
   have hv:v= .slice (some a) len cap:=by
    simpa using hcs
   subst hv;split at h
   .rename_i hc;obtain⟨_,hc1,hc2⟩:=hc;refine⟨a,len,cap,rfl,hc1,hc2,?_⟩;rw[ABu]at h;obtain⟨elems,he1,h⟩:=h;simp only[ACA,AAV]at h;obtain⟨rest,he2,_⟩:=h;refine S5 cap fun i hi=>?_
    have hel:∃y,((w.cells? 0 (a.add (i * P.cellsOf e)) (P.cellsOf e)).bind (DataW.trod enc P w 0 (fun _=>true) held fuel e))=some y:=by
     rcases AAt i len with q | q
     .exact mapM_mem he1 i (by simpa using q)
     .obtain⟨y,hy⟩:=mapM_mem he2 (i - len) (by simp;omega);exact⟨y,by rw[show len+(i - len)=i from by omega]at hy;exact hy⟩
    obtain⟨⟨d2,ps2⟩,hy⟩:=hel;rw[ABu]at hy;obtain⟨cs,hcs,hy⟩:=hy;have hlen:cs.length=P.cellsOf e:=by
     unfold World.cells? at hcs;rw[AAZ (AA4 _)]at hcs;exact(Qs hcs).trans (by simp)
    obtain⟨x,e1,e2⟩:=dN hk hlen hy;rw[hcl]at hcs;exact⟨x,by rw[hcs,e1],e2⟩
   .cases h
end
end Go.AB
namespace Go.AB
section
variable {base:Env}{W0:World}{Z:AW}{H:AA}{W:World}
theorem AH.Jo(h:AH base W0 Z H W)(hall:∀b p,H.get b=some p->p.ro=true/\p.isAbs=false){T:BQ}{o:AJ}{o':Obj}(hro:o.ro=true)(hna:o.isAbs=false)(hT:W.heap[T.c]? = some o')(ho:Cb Z T o o'):
 AH base W0 (Z.ext H.next T) (H.alloc o) W:=by
 have hle:Z.le (Z.ext H.next T):=AW.CV T (h.fresh _ (AAT _)).2;have hlt:T.c < W.heap.size:=by
  rcases AAt T.c W.heap.size with q | q
  .exact q
  .rw[ABo q]at hT;cases hT
 have key:∀b p,(H.alloc o).get b=some p->(b=H.next/\p=o)\/(b≠H.next/\H.get b=some p):=by
  intro b p e;rw[AA.AN]at e
  by_cases q:b=H.next
  .rw[AAZ q]at e;cases e;exact .inl ⟨q,rfl⟩
  .rw[AAW q]at e;exact .inr ⟨q,e⟩
 have kro:∀b p,(H.alloc o).get b=some p->p.ro=true/\p.isAbs=false:=by
  intro b p e;rcases key b p e with⟨_,rfl⟩ | ⟨_,e⟩
  .exact⟨hro,hna⟩
  .exact hall b p e
 refine⟨?_,?_,?_,?_,?_,h.size,h.below,h.out,h.os,?_,AW.le_trans h.le hle,h.grow⟩
 .intro b p hb T' hT';rcases key b p hb with⟨rfl,rfl⟩ | ⟨hne,hb⟩
  .rw[AW.AY]at hT';cases hT'
   exact⟨o',hT,ho.mono hle⟩
  .rw[AW.BB _ _ hne]at hT';obtain⟨o2,h2,h3⟩:=h.obj b p hb T' hT';exact⟨o2,h2,h3.mono hle⟩
 .intro b p hb hr T' hT';rw[(kro b p hb).1]at hr;cases hr
 .intro b1 b2 o1 o2 h1 h2 T1 T2 m1 m2 _ _ hc hrr;rcases hrr with hr | hr
  .rw[(kro b1 o1 h1).1]at hr;cases hr
  .rw[(kro b2 o2 h2).1]at hr;cases hr
 .intro b hb;have hb:H.next+1<=b:=hb;refine⟨?_,by rw[AW.BB _ _ (by omega)];exact(h.fresh b (by omega)).2⟩;rw[AA.AN,AAW (by omega)];exact(h.fresh b (by omega)).1
 .intro b T' hT'
  by_cases e:b=H.next
  .subst e;rw[AW.AY]at hT';cases hT';exact hlt
  .rw[AW.BB _ _ e]at hT';exact h.bound b T' hT'
 .refine⟨fun _ _=>False,fun b a ro T' h1 h2=>?_,fun b a ro T' h1 h2=>?_⟩
  .have:=(kro b _ h1).2;cases this
  .have:=(kro b _ h1).2;cases this
end
theorem Ex(n b:Nat):(⟨.leaf,n⟩:AA).get b=none:=by
 cases h:(⟨.leaf,n⟩:AA).get b with
 | none=>rfl
 | some o=>
  exfalso;have:(Tr.leaf:Tr AJ).get b=some o:=h;unfold Tr.get at this;cases hp:Hl.of b<;>rw[hp]at this<;>cases this
theorem Sx{k:EK}{c:AL}:∀(l:List (EK.C k))(o:Nat),(∀i x,l[i]? = some x->∀j v,(EK.enc k x)[j]? = some v->c[o+(i * k.length+j)]? = some v)->(c.drop o).take (l.length * k.length)=Ac k l
 | [],o,_=>by simp[Ac]
 | x::l,o,h=>by
  have ih:=Sx l (o+k.length) (fun i y hi j v hj=>by
   have:=h (i+1) y (by simpa using hi) j v hj;rw[ACC]at this;rw[show o+k.length+(i * k.length+j)=o+(i * k.length+k.length+j)from by omega];exact this)
  rw[D3,AAz,ACC,ADR (l.length * k.length),List.take_add,ACV,ih]
  congr 1
  apply ACE
  intro j;rcases AAt j k.length with q | q
  .rw[ABO,AAZ q,ABP];have hl:j < (EK.enc k x).length:=by rw[EK.C0];exact q
   rw[AAU hl];have:=h 0 x rfl j _ (AAU hl);rw[ABy,AAj]at this;exact this
  .rw[ABO,AAW (by omega),AAq (by rw[EK.C0];exact q)]
theorem lU{w:World}{b o n:Nat}{cs:AL}{c:BE}{t:TypeId}{fz:Nat × Nat}(hb:w.heap[b]? = some (.cells c t fz))(h:w.cells? 0 ⟨b,o,none⟩ n=some cs):∀(j:Nat) v,cs[j]? = some v->c.toList[o+j]? = some v:=by
 unfold World.cells? at h;rw[AAZ (AA4 _)]at h;intro j v hj;have hl:=Qs h;have hjn:j < n:=by
  rcases AAt j n with q | q
  .exact q
  .rw[AAq (by rw[hl];simpa using q)]at hj;cases hj
 have key:∀(l:AP)(m:AL),l.mapM (fun i=>w.cell? ((⟨b,o,none⟩:Addr).add i))=some m->∀(i a:Nat) v,l[i]? = some a->m[i]? = some v->w.cell? ((⟨b,o,none⟩:Addr).add a)=some v:=by
  intro l;induction l with
  | nil=>intro m _ i a v hi;cases hi
  | cons x r ih=>
   intro m hm i a v hi hv;rw[ACW]at hm;cases hx:w.cell? ((⟨b,o,none⟩:Addr).add x)with
   | none=>rw[hx]at hm;simp at hm
   | some y=>
    rw[hx]at hm;simp only[ACi,ACR,AAv]at hm;cases hr:r.mapM (fun i=>w.cell? ((⟨b,o,none⟩:Addr).add i))with
    | none=>rw[hr]at hm;simp at hm
    | some m'=>
     rw[hr]at hm;simp only[AAv,AAN]at hm;subst hm;cases i with
     | zero=>
      have h1:x=a:=by simpa using hi
      have h2:y=v:=by simpa using hv
      subst h1 h2;exact hx
     | succ i=>exact ih m' hr i a v (by simpa using hi) (by simpa using hv)
 have:=key _ _ h j j v (by rw[ACS hjn]) hj;unfold World.cell? at this;have e:((⟨b,o,none⟩:Addr).add j)=⟨b,o+j,none⟩:=by
  unfold Addr.add
  by_cases hj:j=0
  .subst hj;simp
  .simp[hj]
 rw[e]at this;simp only[hb]at this;simpa using this
theorem G7:∀(k:EK),k.all SK.plain=true->∀x:EK.C k,(EK.enc k x).all flat=true
 | [],_,_=>rfl
 | [s],h,x=>by
  cases s with
  | int k=>rfl
  | bool=>rfl
  | str=>rfl
  | tok=>simp[SK.plain]at h
 | s::t::r,h,x=>by
  rw[ABN,AAQ]at h;simp only[EK.enc,ABN,AAQ];refine⟨?_,G7 (t::r) h.2 x.2⟩;cases s with
  | int k=>rfl
  | bool=>rfl
  | str=>rfl
  | tok=>simp[SK.plain]at h
theorem ZT(Z:AW)(k:EK)(hk:k.all SK.plain=true)(l:List (EK.C k)):Af Z (Ac k l) (Ac k l):=by
 refine IG _ ?_;unfold Ac;rw[ACG];intro v hv;obtain⟨x,_,hx⟩:=List.mem_flatMap.1 hv;exact List.all_eq_true.1 (G7 k hk x) v hx
theorem WB{X:Ctx}{W:World}{Z:AW}{H:AA}(s3:AH (Gp W) W Z H W)(s2:BX X Z)(hall:∀b p,H.get b=some p->p.ro=true/\p.isAbs=false){P:Program}{HH:Type}{enc:TypeId × Value->HH}{t e:TypeId}{k:EK}(hu:P.underlying t=some (.slice e))(hk:MW P e k=true)(hpl:k.all SK.plain=true){r:Go.Reach}{bs:Nat}{v:Value}(hok:Cell.okWide P W r bs t v){held:Bool}{fuel:Nat}{d:DataW HH}{ps:List MemPlace}(htr:DataW.trod enc P W 0 (fun _=>true) held fuel t [v]=some (d,ps)):
 v= .slice none 0 0\/∃(l:List (EK.C k)) (T:BQ),(∀x∈l,EK.NG k x)/\l.length<=maxLen/\AH (Gp W) W (Z.ext H.next T) (H.alloc (.vec k l true)) W/\BX X (Z.ext H.next T)/\
  AF (Z.ext H.next T) (.slice (some ⟨H.next,0,some 0⟩) l.length AT) v:=by
 rcases trod_slice hu hk htr with rfl | ⟨a,len,cap,rfl,h1,h2,l,h3,h4⟩
 .exact .inl rfl
 .right
  have hk0:0 < k.length:=by
   unfold MW at hk;simp only[AAQ]at hk;rcases AB4 k.length with q | q
   .rw[q]at hk;simp at hk
   .exact q
  have hsh:∃b o c t' fz,a=⟨b,o,none⟩/\W.heap[b]? = some (.cells c t' fz):=by
   unfold Cell.okWide Cell.ok at hok;rw[hu]at hok
   simp only at hok;obtain⟨_,_,h3⟩:=hok;obtain⟨_,hs,row,cells,hsh,_⟩:=h3;obtain⟨b,o,sp⟩:=a;simp only at hs;subst hs;unfold World.shape? at hsh;simp only at hsh;split at hsh
   .rename_i c t' fz hb;exact⟨b,o,c,t',fz,rfl,hb⟩
   .cases hsh
  obtain⟨b,o,c,t',⟨f1,f2⟩,rfl,hb⟩:=hsh;have hcell:∀i x,l[i]? = some x->∀j v,(EK.enc k x)[j]? = some v->c.toList[o+(i * k.length+j)]? = some v:=by
   intro i x hi j v hj;obtain⟨q1,_⟩:=h4 i x hi;have e:((⟨b,o,none⟩:Addr).add (i * k.length))=⟨b,o+i * k.length,none⟩:=by
    unfold Addr.add
    by_cases hz:i * k.length=0
    .simp[hz]
    .simp[hz]
   rw[e]at q1;have:=lU hb q1 j v hj;rw[ABH]at this;exact this
  have hok2:∀x∈l.take len,EK.NG k x:=fun x hx=>by
   obtain⟨i,hi⟩:=List.getElem?_of_mem (ACD hx);exact(h4 i x hi).2
  have hlen:(l.take len).length=len:=by rw[AAh];omega
  have hmax:maxLen=9223372036854775807:=by unfold maxLen;rfl
  by_cases hc0:cap=0
  .have hl0:len=0:=by omega
   subst hc0 hl0;have hl:l=[]:=AAp h3;subst hl;refine⟨[],⟨b,0,c.size,k.length⟩,by simp,AA4 _,?_,s2.mono (AW.CV _ (s3.fresh H.next (AAT _)).2),?_⟩
   .refine s3.Jo hall rfl rfl hb (.vec _ k [] true _ (.cells _ _ _ _ c t' f1 f2 rfl ?_ (by simp) (fun q=>by cases q)));simp[Ac];exact .nil
   .exact .Dz H.next 0 AT ⟨b,0,c.size,k.length⟩ (some (b,o)) (AW.AY _ _ _) (.inr ⟨AAT _,ABQ _⟩)
  .have hsz:o+cap * k.length<=c.size:=by
    have hx:cap - 1 < l.length:=by omega
    have hj:k.length - 1 < (EK.enc k l[cap - 1]).length:=by rw[EK.C0];omega
    have:=hcell (cap - 1) l[cap - 1] (AAU hx) (k.length - 1) _ (AAU hj);have hlt:o+((cap - 1) * k.length+(k.length - 1)) < c.toList.length:=by
     rcases AAt (o+((cap - 1) * k.length+(k.length - 1))) c.toList.length with q | q
     .exact q
     .rw[AAq q]at this;cases this
    have e:cap * k.length=(cap - 1) * k.length+k.length:=by
     obtain⟨m,rfl⟩:∃m,cap=m+1:=⟨cap - 1,by omega⟩
     rw[ACC];rfl
    simp at hlt;omega
   refine⟨l.take len,⟨b,o,c.size - o,k.length⟩,hok2,by rw[hlen];omega,?_,s2.mono (AW.CV _ (s3.fresh H.next (AAT _)).2),?_⟩
   .refine s3.Jo hall rfl rfl hb (.vec _ k _ true _ (.cells _ _ _ _ c t' f1 f2 rfl ?_ (by show c.size=o+(c.size - o);omega) (fun q=>by cases q)));have e:=Sx (c:=c.toList) (l.take len) o (fun i x hi j v hj=>hcell i x (by
     rw[ABO]at hi;split at hi
     .exact hi
     .cases hi) j v hj)
    rw[A7];show Af _ _ ((c.toList.drop o).take _);rw[e];exact ZT _ k hpl (l.take len)
   .rw[hlen];refine .Bd H.next 0 len AT cap o ⟨b,o,c.size - o,k.length⟩ (AW.AY _ _ _) (.inr ⟨AAT _,by omega,h1,?_,.inr (by omega)⟩) (.inl (by simp)) ?_
    .show 0 * k.length+cap * k.length<=c.size - o;omega
    .show c.size - o≠0;have:=ACu (show 0 < cap by omega) hk0;omega
theorem Jg{X:Ctx}{W:World}(hok:En X (Gp W) W)(hplan:HR X){f:FuncId}{n N:Nat}(he:entry X.P f=some (n,BN X.P f [])){Z:AW}{H:AA}(hH:AH (Gp W) W Z H W)(hl:BX X Z){args:AL}{args':BE}(ha:Af Z args args'.toList)(hn:args.length<=n){v:Value}(hrun:Aa X N f (fun v' _=>v'=v) (Du f (CP 0 args .leaf) n (BN X.P f []) H))(hv:flat v=true):
 Calls X.P f args' W fun e W'=>e= .returned v/\FX W W':=by
 intro cs;obtain⟨c',⟨v2,Hf,hd,rfl⟩,μ1,fr1,cs1,W1,st,m1⟩:=hrun (Gp W) W (fun b T h=>by cases h) hok hplan cs _ _ [] W (LA hH hl he ha hn);obtain⟨rfl,hf,v',e1,e2,e3⟩:=KA m1 hd;have hs':Steps X.P (lone (Frame.enter X.P f args' .normal) cs W) (lone fr1 cs W1):=by simpa using st
 refine⟨.returned v',W1,fr1,⟨?_,e2.mW⟩,hs',hf,e1⟩;rw[LN hv e3]
theorem bp{X:Ctx}{W:World}(hL:Dt X (Gp W) W){n:Nat}(hn:(X.laid.all fun p=>Nat.blt p.1 n)=true){P:Program}{H:Type}{enc:TypeId × Value->H}{t e:TypeId}{k:EK}(hu:P.underlying t=some (.slice e))(hk:MW P e k=true)(hpl:k.all SK.plain=true){r:Go.Reach}{bs:Nat}{v:Value}(hok:Cell.okWide P W r bs t v){held:Bool}{fuel:Nat}{d:DataW H}{ps:List MemPlace}(htr:DataW.trod enc P W 0 (fun _=>true) held fuel t [v]=some (d,ps)):
 ∃Z,AH (Gp W) W Z ⟨.leaf,n⟩ W/\BX X Z/\(v= .slice none 0 0\/∃(l:List (EK.C k)) (T:BQ),(∀x∈l,EK.NG k x)/\l.length<=maxLen/\AH (Gp W) W (Z.ext n T) ((⟨.leaf,n⟩:AA).alloc (.vec k l true)) W/\BX X (Z.ext n T)/\
  AF (Z.ext n T) (.slice (some ⟨n,0,some 0⟩) l.length AT) v):=by
 obtain⟨s1,s2⟩:=MG (X:=X) hL (none_le _) (fun _ hi=>hi) (n:=n) (MO hn);have s3:AH (Gp W) W (GL X.laid) ⟨.leaf,n⟩ W:=s1.sub (H':=⟨.leaf,n⟩) (fun b o hb=>by rw[Ex]at hb;cases hb) (by rw[F9]);exact⟨GL X.laid,s3,s2,WB s3 s2 (fun b p hb=>by rw[Ex]at hb;cases hb) hu hk hpl hok htr⟩
theorem gL{X:Ctx}{W:World}{Z:AW}{H:AA}(s3:AH (Gp W) W Z H W)(s2:BX X Z)(hall:∀b p,H.get b=some p->p.ro=true/\p.isAbs=false)(hm:∃g Tg,Z g=some Tg){P:Program}{HH:Type}{enc:TypeId × Value->HH}{t e:TypeId}{k:EK}(hu:P.underlying t=some (.slice e))(hk:MW P e k=true)(hpl:k.all SK.plain=true){r:Go.Reach}{bs:Nat}{v:Value}(hok:Cell.okWide P W r bs t v){held:Bool}{fuel:Nat}{d:DataW HH}{ps:List MemPlace}(htr:DataW.trod enc P W 0 (fun _=>true) held fuel t [v]=some (d,ps)):
 ∃(l:List (EK.C k)) (T:BQ),(∀x∈l,EK.NG k x)/\l.length<=maxLen/\AH (Gp W) W (Z.ext H.next T) (H.alloc (.vec k l true)) W/\BX X (Z.ext H.next T)/\
  AF (Z.ext H.next T) (.slice (some ⟨H.next,0,some 0⟩) l.length AT) v:=by
 rcases WB s3 s2 hall hu hk hpl hok htr with rfl | h
 .obtain⟨g,Tg,hg⟩:=hm;have hk0:k.length≠0:=by
   unfold MW at hk;simp only[AAQ]at hk;intro q;rw[q]at hk;simp at hk
  obtain⟨h1,h2⟩:=s3.F3 hg hk0 true;exact⟨[],_,fun x hx=>(by cases hx),AA4 _,h1,s2.mono h2.le,.Dz H.next 0 AT _ none (AW.AY _ _ _) (.inr ⟨AAT _,ABQ _⟩)⟩
 .exact h
end Go.AB
namespace Go.AB
open Go.Proofs
abbrev DU:EK:=[.str,.tok]
def Dh(l:List (EK.C DU)):List (EK.C DU):=List.map (fun x=>(x.1,Bo)) l
theorem FZ(l:List (EK.C DU)):(Dh l).length=l.length:=ABI ..
theorem TA{Z ν:AW}:∀(l:List (EK.C DU))(l':AL),Af Z (Ac DU l) l'->Af ν (Ac DU (Dh l)) l'
 | [],l',h=>by cases h;exact .nil
 | x::r,l',h=>by
  have h:Af Z (Value.string x.1::x.2::Ac DU r) l':=h;cases h with
  | cons h1 h2=>cases h2 with
   | cons h3 h4=>
    cases h1
    exact .cons (.string _) (.cons (.Bo _) (TA r _ h4))
theorem dx(l:List (EK.C DU)):(Ac DU (Dh l)).length=(Ac DU l).length:=by
 rw[A7,A7,FZ]
theorem ZH{Z ν:AW}{T:BQ}{l:List (EK.C DU)}{ro ro2:Bool}{o':Obj}(h:Cb Z T (.vec DU l ro) o')(hr2:ro2=true):Cb ν T (.vec DU (Dh l) ro2) o':=by
 subst hr2;cases h with
 | vec _ _ _ _ hc=>
  cases hc with
  | cells _ _ _ c t lo hi he hc hr hf=>
   refine .vec T DU _ true _ (.cells T _ _ true c t lo hi he ?_ hr (fun e=>by cases e));rw[dx];exact TA l _ hc
 | D7 _ _ _ he hr hk=>exact .D7 T DU true _ he hr hk
theorem VB{base:Env}{W0 W:World}{Z:AW}{H:AA}(hW:Dt (VS Tryz.prog AG) base W0)(hH:AH base W0 Z H W){fs:List (FuncId × DL)}(hfs:CQ Tryz.prog AG fs){f:FuncId}(he:entry Tryz.prog f=some (A5 f,BN Tryz.prog f [])){y c:Nat}{l:List (EK.C DU)}{ro:Bool}{p2 o2:AJ}{Ty Tc:BQ}(hy:H.get y=some (.vec DU l ro))(hTy:Z y=some Ty)(hc:H.get c=some p2)(hTc:Z c=some Tc)(hro:o2.ro=true)(hna:o2.isAbs=false)(h2:∀(ν:AW)(o':Obj),ν 20=some Ty->Cb Z Tc p2 o'->Cb ν Tc o2 o'){argsc:AL}{args':BE}(ha:∀ν:AW,ν 20=some Ty->ν 21=some Tc->Af ν argsc args'.toList)(hn:argsc.length<=A5 f){v:Value}(hv:flat v=true)(hrun:Aa (BY Tryz.prog AG fs) 22 f (fun v' _=>v'=v) (st f argsc (hp [.vec DU (Dh l) true,o2]))):Calls Tryz.prog f args' W fun e W'=>∃v' μ',e= .returned v'/\AH base W0 μ' H W'/\AF μ' v v'/\Ah Z H μ' H:=by
 have hW1:Dt (BY Tryz.prog AG fs) (Gp W) W:=by
  have:=hW.carry hH;unfold Dt at this ⊢;exact this
 obtain⟨s1,s2⟩:=MG (X:=BY Tryz.prog AG fs) hW1 (none_le _) (fun _ hi=>hi) (n:=20) (MO (by kernel_rfl));have s3:AH (Gp W) W (GL (BY Tryz.prog AG fs).laid) ⟨.leaf,20⟩ W:=s1.sub (H':=⟨.leaf,20⟩) (fun b o hb=>by rw[Ex]at hb;cases hb) (by rw[F9]);obtain⟨oy,hoy,hry⟩:=hH.obj y _ hy Ty hTy;obtain⟨oc,hoc,hrc⟩:=hH.obj c _ hc Tc hTc;have all0:∀b p,(⟨.leaf,20⟩:AA).get b=some p->p.ro=true/\p.isAbs=false:=fun b p hb=>by rw[Ex]at hb;cases hb
 have s4:=s3.Jo all0 (o:= .vec DU (Dh l) true) (T:=Ty) rfl rfl hoy (ZH hry rfl);have hle1:(GL (BY Tryz.prog AG fs).laid).le ((GL (BY Tryz.prog AG fs).laid).ext 20 Ty):=AW.CV _ (s3.fresh 20 (AAT _)).2;have all1:∀b p,((⟨.leaf,20⟩:AA).alloc (.vec DU (Dh l) true)).get b=some p->p.ro=true/\p.isAbs=false:=fun b p hb=>by
  rw[AA.AN]at hb;split at hb
  .cases hb;exact⟨rfl,rfl⟩
  .rw[Ex]at hb;cases hb
 have h20:((GL (BY Tryz.prog AG fs).laid).ext 20 Ty) 20=some Ty:=AW.AY _ _ _;have s5:=s4.Jo all1 (o:=o2) (T:=Tc) hro hna hoc (h2 _ _ h20 hrc);have hle2:((GL (BY Tryz.prog AG fs).laid).ext 20 Ty).le (((GL (BY Tryz.prog AG fs).laid).ext 20 Ty).ext 21 Tc):=AW.CV _ (s4.fresh 21 (AAT _)).2;have e:((⟨.leaf,20⟩:AA).alloc (.vec DU (Dh l) true)).alloc o2=hp [.vec DU (Dh l) true,o2]:=by kernel_rfl
 have s6:AH (Gp W) W (((GL (BY Tryz.prog AG fs).laid).ext 20 Ty).ext 21 Tc) (hp [.vec DU (Dh l) true,o2]) W:=by rw[<-e];exact s5
 have hlaid:BX (BY Tryz.prog AG fs) (((GL (BY Tryz.prog AG fs).laid).ext 20 Ty).ext 21 Tc):=(s2.mono hle1).mono hle2;refine(Jg (hfs.Hp _ _ hW1) (Gq (by kernel_rfl) rfl) he s6 hlaid (ha _ (hle2 _ _ h20) (AW.AY _ _ _)) hn hrun hv).mono ?_;rintro e W' ⟨rfl,k1,k2,k3,k4⟩;exact⟨v,Z,rfl,hH.carry k3 k4 k2 k1,D4 hv,Ah.refl _ _⟩
theorem AF.JW{Z ν:AW}{b b2 o n c:Nat}{s:Option Nat}{T:BQ}{w:Value}(h:AF Z (.slice (some ⟨b,o,s⟩) n c) w)(hb:Z b=some T)(h2:ν b2=some T):AF ν (.slice (some ⟨b2,o,s⟩) n c) w:=by
 cases h with
 | slice _ _ _ _ cap' o' T' h hc ho=>rw[hb]at h;cases h;exact .slice b2 o n c cap' o' T h2 hc ho
 | Bd _ _ _ _ cap' o' T' h hc ho hr=>rw[hb]at h;cases h;exact .Bd b2 _ n c cap' o' T h2 hc ho hr
 | Dz _ _ _ T' a h hc=>rw[hb]at h;cases h;exact .Dz b2 _ c T a h2 hc
 | C9 _ _ _ _ cap' o' T' M h hm hc ho hr=>rw[hb]at h;cases h;exact .C9 b2 _ n c cap' o' T M h2 hm hc ho hr
 | GI _ _ _ T' a h hc=>rw[hb]at h;cases h;exact .GI b2 _ c T a h2 hc
theorem AF.Pm{Z ν:AW}{b b2:Nat}{T:BQ}{w:Value}(h:AF Z (.pointer (some ⟨b,0,none⟩)) w)(hb:Z b=some T)(h2:ν b2=some T):AF ν (.pointer (some ⟨b2,0,none⟩)) w:=by
 cases h with
 | ptr _ _ T' h=>rw[hb]at h;cases h;exact .ptr b2 0 T h2
def LX(l:List (EK.C DU))(k:Ag)(m:Nat):Bool:=Op.bytesLess (ByteArray.toList (l.getD m (EK.BJ DU)).1) (ByteArray.toList k)
def B0(l:List (EK.C DU))(k:Ag):Nat:=Wa (LX l k) l.length 0 l.length
def GK(l:List (EK.C DU))(k:Ag):Bool:=decide (B0 l k < l.length)&&(ByteArray.toList (l.getD (B0 l k) (EK.BJ DU)).1==ByteArray.toList k)
theorem S4(l:List (EK.C DU))(k:Ag):LX (Dh l) k=LX l k:=by
 funext m
 unfold LX Dh;rw[AAX,AAi,AAX];cases l[m]?<;>rfl
theorem Qm(l:List (EK.C DU))(k:Ag):B0 (Dh l) k=B0 l k:=by
 unfold B0;rw[S4,FZ]
theorem dy(l:List (EK.C DU))(k:Ag):GK (Dh l) k=GK l k:=by
 unfold GK;rw[Qm,FZ]
 congr 2
 unfold Dh;rw[AAX,AAi,AAX];cases l[B0 l k]?<;>rfl
def oB(b:Nat):Value:= .func (.func Ba) ⟨[]⟩ ⟨[.pointer (some ⟨b,0,none⟩)]⟩
def Qt:DL:=fun args H=>match args with
 | [.slice (some ⟨y,0,some 0⟩) n 18446744073709551616,.func (.func g) ⟨[]⟩ ⟨[.pointer (some ⟨c,0,none⟩)]⟩]=>match H.get y,H.get c with
  | some (.vec [.str,.tok] l _),some (.cells [.string k] 0 _)=>bif Nat.beq n l.length&&Nat.blt n 1000000&&Nat.beq g Ba then some (int (B0 l k),H)else none
  | _,_=>none
 | _=>none
def Xy:GN:=fun args H K=>match args with
 | [.slice (some ⟨y,0,some 0⟩) n 18446744073709551616,.func (.func g) ⟨[]⟩ ⟨[.pointer (some ⟨c,0,none⟩)]⟩]=>match H.get y,H.get c with
  | some (.vec [.str,.tok] l _),some (.cells [.string k] 0 _)=>bif Nat.beq g Ba then((n=l.length/\n < 1000000)/\K (int (B0 l k)) H)else False
  | _,_=>False
 | _=>False
theorem bj:SR Qt Xy:=fun X f hX args H K h=>by
 unfold Xy at h;split at h
 .rename_i y n g c;split at h
  .rename_i l ro k ro2 hy hc;cases hg:Nat.beq g Ba
   .simp only[hg,AAR]at h
   .simp only[hg,AAO]at h;obtain⟨⟨rfl,hb⟩,hK⟩:=h;refine⟨_,_,?_,hK⟩;unfold B3;simp only[hX];unfold Qt;simp only[hy,hc,hg,AAu,show Nat.blt l.length 1000000=true from AAS hb,ABv,AAO]
  .exact h.elim
 .exact h.elim
abbrev B2:=List (EK.C DU)
def kL(l:B2)(n:Nat)(k:Ag)(i j:Int):BU:=
 ⟨⟨AR,JS [(0,Aq 20 n),(1,oB 21),(5,int i),(6,int j)],A5 AR,[.code (BN Tryz.prog AR [1,1,0,0,0]),.inLoop (BN Tryz.prog AR [1,1,0,0,0]),.inBlock 0,.code (BN Tryz.prog AR [1,1,1])],[],false,.normal,none⟩,[],hp [.vec DU l true,.cells [.string k] 0 true]⟩
def uC:Stop:=⟨AR,0,3,22,[20,21],[0,1,5,6]⟩
theorem uL(l:B2)(n:Nat)(k:Ag)(Q:Bz)(R:Cy):Pj X0 Dn [] AR [] uC [] Q R 100 (st AR [Aq 20 n,oB 21] (hp [.vec DU l true,.cells [.string k] 0 true]))=(
 (R (kL (Xc (Fk 22 []) l) n k 0 (Int.ofNat n)))):=by kernel_rfl
theorem yj(l:B2)(n:Nat)(k:Ag)(i j:Int)(Q:Bz)(R:Cy):Pj X0 Dn [] AR [] uC [] Q R 200 (kL l n k i j)=(
 let c:=Xc (Fk 22 []) l;let a:=Int.tdiv (IntKind.wrap .i64 (i+j)) 2;let b:=IntKind.wrap .i64 a;(bif decide (i < j)then(bif decide (0<=IntKind.wrap .i64 a)&&Nat.blt b.toNat n then(bif Nat.blt (0+b.toNat) l.length then(bif !Op.bytesLess (ByteArray.toList (List.getD l (0+b.toNat) (EK.BJ DU)).1) (ByteArray.toList k)then(R (kL c n k i b))else(R (kL c n k (IntKind.wrap .i64 (IntKind.wrap .i64 a+1)) j)))else False)else False)else(Q (int i) []))):=by kernel_rfl
def y0:List Gc:=[(AR,Qt,Xy)]
abbrev XFn:Ctx:=BY Tryz.prog AG (C8 y0)
theorem pT(l:B2)(n:Nat)(k:Ag)(Q:Bz):Bu XFn (As y0) [] Ap [] 22 Q 200 (st Ap [Al 21,.string k] (hp [.vec DU l true,.cells [.bool true,Aq 20 n] 0 true]))=(
 let j:=((Aq 20 n):Value)=(Aq 20 n);let i:=((.string k):Value)=(.string k);let h:=((.bool false):Value)=(.bool false);let a:=((B0 l k):Int);let m:=((int (a)):Value)=(int (a));let f:Prop:=Q (.tuple ⟨[(int (a)),(.bool false)]⟩) [];let e:Value:= .pointer (some ⟨20,0,(some (0+a.toNat))⟩);let c:=List.getD l (0+a.toNat) (EK.BJ DU);let g:=((.string c.1):Value)=(.string c.1);let d:=((.bool (ByteArray.toList c.1==ByteArray.toList k)):Value);let b:=(e:Value)=e;(n=l.length/\n < 1000000)/\(bif decide (a < Int.ofNat n)then(bif decide (0<=a)&&Nat.blt a.toNat n then(bif Nat.blt (0+a.toNat) l.length then(bif ByteArray.toList c.1==ByteArray.toList k then(((.bool true):Value)=(.bool true))/\(d=(.bool true))/\i/\(bif Nat.blt (0+a.toNat) l.length then g/\b/\(bif decide (0<=a)&&Nat.blt a.toNat n then b/\m/\j/\(Q (.tuple ⟨[(int (a)),(.bool true)]⟩) [])else False)else False)else h/\(d=(.bool false))/\i/\(bif Nat.blt (0+a.toNat) l.length then g/\b/\(bif decide (0<=a)&&Nat.blt a.toNat n then b/\m/\j/\f else False)else False))else False)else False)else h/\f)):=by kernel_rfl
theorem Pw(ρ:Rn)(l:B2):Xc ρ (Dh l)=Dh l:=by
 unfold Xc Dh;rw[ACY];exact AB9 fun _ _=>rfl
def u5(n len:Nat)(i j:Int)(p:Nat->Bool)(R:Int->Int->Prop)(E:Prop):Prop:=
 bif decide (i < j)then(bif decide (0<=IntKind.wrap .i64 (Int.tdiv (IntKind.wrap .i64 (i+j)) 2))&&Nat.blt (Int.toNat (IntKind.wrap .i64 (Int.tdiv (IntKind.wrap .i64 (i+j)) 2))) n then
  (bif Nat.blt (0+Int.toNat (IntKind.wrap .i64 (Int.tdiv (IntKind.wrap .i64 (i+j)) 2))) len then(bif !p (0+Int.toNat (IntKind.wrap .i64 (Int.tdiv (IntKind.wrap .i64 (i+j)) 2)))then R i (IntKind.wrap .i64 (Int.tdiv (IntKind.wrap .i64 (i+j)) 2))
   else R (IntKind.wrap .i64 (IntKind.wrap .i64 (Int.tdiv (IntKind.wrap .i64 (i+j)) 2)+1)) j)else False)else False)else E
theorem aS{n len i j:Nat}{p:Nat->Bool}{R:Int->Int->Prop}{E:Prop}(hl:n<=len)(hn:n < 1000000)(h:i < j)(hj:j<=n)(h1:p ((i+j) / 2)=true->R (((i+j) / 2+1:Nat):Int) j)(h2:p ((i+j) / 2)=false->R (i:Int) (((i+j) / 2:Nat):Int)):u5 n len (i:Int) (j:Int) p R E:=by
 unfold u5;have e0:IntKind.wrap .i64 (Int.tdiv (IntKind.wrap .i64 ((i:Int)+(j:Int))) 2)=(((i+j) / 2:Nat):Int):=by
  rw[wrap64 (x:=(i:Int)+(j:Int)) (by omega) (by omega)];have:Int.tdiv ((i:Int)+(j:Int)) 2=(((i+j) / 2:Nat):Int):=by rw[Int.tdiv_eq_ediv_of_nonneg (by omega)];omega
  rw[this,wrap64 (by omega) (by omega)]
 have e:IntKind.wrap .i64 ((((i+j) / 2:Nat):Int)+1)=(((i+j) / 2+1:Nat):Int):=by rw[wrap64 (by omega) (by omega)];omega
 rw[e0,e,AAa,AAj];refine AD (AAY (by omega)) (AD ?_ (AD (AAS (by omega)) (Cz (fun c=>h2 ?_) fun c=>h1 ?_)))
 .rw[AAY (show(0:Int)<=(((i+j) / 2:Nat):Int) by omega),show Nat.blt ((i+j) / 2) n=true from AAS (by omega)];rfl
 .simpa using c
 .simpa using c
theorem Y4(l:B2)(n:Nat)(k:Ag)(i j:Int)(Q:Bz)(R:Cy):Pj X0 Dn [] AR [] uC [] Q R 200 (kL l n k i j)=u5 n l.length i j (LX l k) (fun i j=>R (kL (Xc (Fk 22 []) l) n k i j)) (Q (int i) []):=by rw[yj];rfl
theorem oF{l:B2}{k:Ag}(hn:l.length < 1000000):∀(q i j:Nat),j - i<=q->i<=j->j<=l.length->Aa X0 22 AR (fun v _=>v=int (Wa (LX l k) q i j:Nat)) (kL (Dh l) l.length k i j):=by
 have fin:∀i:Nat,Aa X0 22 AR (fun v _=>v=int (i:Nat)) (kL (Dh l) l.length k i i):=fun i=>by
  refine DA (By _) [] [] uC [] (by kernel_rfl) (by decide) (fun v _=>v=int (i:Nat)) (fun _=>False) (fun v H h=>h) (fun c h=>h.elim) (n:=200) ?_;rw[Y4];exact AK (AAb (by omega)) rfl
 intro q;induction q with
 | zero=>
  intro i j hq hi hj;obtain rfl:i=j:=by omega
  exact fin i
 | succ q ih=>
  intro i j hq hi hj;unfold Wa
  by_cases h:i < j
  .rw[AAZ h];have hlen:(Dh l).length=l.length:=FZ l;have hlt:LX (Dh l) k=LX l k:=S4 l k;cases hc:LX l k ((i+j) / 2)
   .refine DA (By _) [] [] uC [] (by kernel_rfl) (by decide) (fun _ _=>False) (fun c=>c=kL (Dh l) l.length k i ((i+j) / 2:Nat)) (fun v H h=>h.elim) (fun c h=>by rw[h];exact ih i ((i+j) / 2) (by omega) (by omega) (by omega)) (n:=200) ?_;rw[Y4];(conv=>zeta);rw[Pw,hlen,hlt]
    exact aS (AAT _) hn h hj (fun e=>by rw[hc]at e;cases e) fun _=>rfl
   .refine DA (By _) [] [] uC [] (by kernel_rfl) (by decide) (fun _ _=>False) (fun c=>c=kL (Dh l) l.length k ((i+j) / 2+1:Nat) j) (fun v H h=>h.elim) (fun c h=>by rw[h];exact ih ((i+j) / 2+1) j (by omega) (by omega) hj) (n:=200) ?_;rw[Y4];(conv=>zeta);rw[Pw,hlen,hlt]
    exact aS (AAT _) hn h hj (fun _=>rfl) fun e=>by rw[hc]at e;cases e
  .rw[AAW h];obtain rfl:i=j:=by omega
   exact fin i
theorem Yn:CH Tryz.prog AG AR Qt:=by
 refine⟨⟨_,_,show entry Tryz.prog AR=some (A5 AR,BN Tryz.prog AR []) by kernel_rfl⟩,?_⟩;intro base W0 Z H W args args' v H' hW hH hl ha hF;unfold Qt at hF;split at hF
 .rename_i y n g c;split at hF
  .rename_i l ro k ro2 hy hc;cases hb:(Nat.beq n l.length&&Nat.blt n 1000000&&Nat.beq g Ba)
   .simp only[hb,AAR]at hF;cases hF
   .simp only[hb,AAO,AAN,AAm]at hF;obtain⟨rfl,rfl⟩:=hF;simp only[AAQ]at hb;obtain⟨⟨b1,b2⟩,b3⟩:=hb;have b1:=AAP b1;have b3:=AAP b3;have b2:n < 1000000:=VC b2;subst b1 b3;generalize hqq:args'.toList=qq at ha;cases ha with
    | cons h1 ha=>cases ha with
     | cons h2 ha=>
      cases ha
      obtain⟨Ty,hTy⟩:=Hu h1;obtain⟨fn2,xs2,ys2,rfl,hf2,hx2,hy2⟩:=AF.Cd.1 h2;have hy2':Af Z [Value.pointer (some ⟨c,0,none⟩)] ys2.toList:=hy2;generalize hyy:ys2.toList=yy at hy2';cases hy2' with
      | cons h3 h4=>
       cases h4
       obtain⟨Tc,hTc⟩:=Jr h3;refine VB hW hH (CQ.nil _ _) (by kernel_rfl) hy hTy hc hTc (o2:= .cells [.string k] 0 true) rfl rfl (fun ν o' _ ho=>?_) (argsc:=[Aq 20 l.length,oB 21]) (fun ν e1 e2=>?_) (VC (by kernel_rfl)) rfl ?_
       .cases ho with
        | cells _ _ _ cc t lo hi he hcc hr hf=>
         refine .cells Tc _ 0 true cc t lo hi he ?_ hr (fun e=>by cases e);generalize List.take [Value.string k].length (List.drop Tc.d cc.toList)=r at hcc;cases hcc with
         | cons g1 g2=>cases g1;cases g2;exact .cons (.string _) .nil
       .rw[hqq];refine .cons (h1.JW hTy e1) (.cons (AF.Cd.2 ⟨_,_,_,rfl,?_,(by have hx3:Af Z [] xs2.toList:=hx2;show Af ν [] xs2.toList;generalize xs2.toList=z at hx3;cases hx3;exact .nil),?_⟩) .nil)
        .cases hf2;exact .func _
        .rw[hyy];exact .cons (h3.Pm hTc e2) .nil
       .rw[show B0 l k=Wa (LX l k) l.length 0 l.length from rfl];refine DA (By _) [] [] uC [] (by kernel_rfl) (by decide) (fun _ _=>False) (fun c=>c=kL (Dh l) l.length k 0 l.length) (fun v H h=>h.elim) (fun c h=>by rw[h];exact oF b2 l.length 0 l.length (by omega) (AA4 _) (AAT _)) (n:=100) (c:=st AR [Aq 20 l.length,oB 21] (hp [.vec DU (Dh l) true,.cells [.string k] 0 true])) ?_;rw[uL,Pw];exact rfl
  .cases hF
 .cases hF
theorem w6:Ct y0:= .other Yn bj .nil
def TE(l:B2)(k:Ag):Value:= .tuple ⟨[int (B0 l k:Nat),.bool (GK l k)]⟩
theorem kV{l:B2}{k:Ag}(hn:l.length < 1000000):Bu XFn (As y0) [] Ap [] 22 (fun v _=>v=TE l k) 200 (st Ap [Al 21,.string k] (hp [.vec DU l true,.cells [.bool true,Aq 20 l.length] 0 true])):=by
 rw[pT];(conv=>zeta)
 unfold TE GK;have hr:B0 l k<=l.length:=(Jz _ _ _ _ (AA4 _)).2;generalize B0 l k=r at hr;rw[AAa,AAj];refine⟨⟨rfl,hn⟩,?_⟩
 by_cases h:r < l.length
 .have nb:Nat.blt r l.length=true:=AAS h;have c1:(decide ((0:Int)<=(r:Int))&&Nat.blt r l.length)=true:=by rw[nb,AAY (show(0:Int)<=(r:Int) by omega)];rfl
  rw[AAY h,AB5];refine AD (AAY (by show(r:Int) < (l.length:Int);omega)) (AD c1 (AD nb (Cz (fun c=>?_) fun c=>?_)))
  .rw[c];exact⟨rfl,rfl,rfl,AD nb ⟨rfl,rfl,AD c1 ⟨rfl,rfl,rfl,rfl⟩⟩⟩
  .rw[c];exact⟨rfl,rfl,rfl,AD nb ⟨rfl,rfl,AD c1 ⟨rfl,rfl,rfl,rfl⟩⟩⟩
 .rw[AAb h];exact AK (AAb (by show ¬(r:Int) < (l.length:Int);omega)) ⟨rfl,rfl⟩
theorem ZN(l:B2)(k:Ag):TE (Dh l) k=TE l k:=by
 unfold TE;rw[Qm,dy]
def RJ:DL:=fun args H=>match args with
 | [.pointer (some ⟨c,0,none⟩),.string k]=>match H.get c with
  | some (.cells [.bool true,.slice (some ⟨y,0,some 0⟩) n 18446744073709551616] 0 _)=>match H.get y with
   | some (.vec [.str,.tok] l _)=>bif Nat.beq n l.length&&Nat.blt n 1000000 then some (TE l k,H)else none
   | _=>none
  | _=>none
 | _=>none
def WC(i:Nat)(b:Bool):GN:=fun args H K=>match args with
 | [.pointer (some ⟨c,0,none⟩),.string k]=>match H.get c with
  | some (.cells [.bool true,.slice (some ⟨y,0,some 0⟩) n 18446744073709551616] 0 _)=>match H.get y with
   | some (.vec [.str,.tok] l _)=>(n=l.length/\n < 1000000/\B0 l k=i/\GK l k=b)/\K (.tuple ⟨[int (i:Nat),.bool b]⟩) H
   | _=>False
  | _=>False
 | _=>False
theorem QF(i:Nat)(b:Bool):SR RJ (WC i b):=fun X f hX args H K h=>by
 unfold WC at h;split at h
 .rename_i c k;split at h
  .rename_i y n ro hc;split at h
   .rename_i l ro2 hy;obtain⟨⟨rfl,hb,rfl,rfl⟩,hK⟩:=h;refine⟨_,_,?_,hK⟩;unfold B3;simp only[hX];unfold RJ;simp only[hc,hy,AAu,show Nat.blt l.length 1000000=true from AAS hb,ABv,AAO];rfl
   .exact h.elim
  .exact h.elim
 .exact h.elim
theorem NY:CH Tryz.prog AG Ap RJ:=by
 refine⟨⟨_,_,show entry Tryz.prog Ap=some (A5 Ap,BN Tryz.prog Ap []) by kernel_rfl⟩,?_⟩;intro base W0 Z H W args args' v H' hW hH hl ha hF;unfold RJ at hF;split at hF
 .rename_i c k;split at hF
  .rename_i y n ro hc;split at hF
   .rename_i l ro2 hy;cases hb:(Nat.beq n l.length&&Nat.blt n 1000000)
    .simp only[hb,AAR]at hF;cases hF
    .simp only[hb,AAO,AAN,AAm]at hF;obtain⟨rfl,rfl⟩:=hF;simp only[AAQ]at hb;obtain⟨b1,b2⟩:=hb;have b1:=AAP b1;have b2:n < 1000000:=VC b2;subst b1;generalize hqq:args'.toList=qq at ha;cases ha with
     | cons h1 ha=>cases ha with
      | cons h2 ha=>
       cases ha
       obtain⟨Tc,hTc⟩:=Jr h1;have hy0:∃Ty,Z y=some Ty:=by
        obtain⟨oc,_,hrc⟩:=hH.obj c _ hc Tc hTc;cases hrc with
        | cells _ _ _ cc t lo hi he hcc hr hf=>
         generalize List.take [Value.bool true,Value.slice (some ⟨y,0,some 0⟩) l.length 18446744073709551616].length (List.drop Tc.d cc.toList)=r at hcc;cases hcc with
         | cons g1 g2=>cases g2 with
          | cons g3 g4=>exact Hu g3
       obtain⟨Ty,hTy⟩:=hy0;refine VB hW hH w6.all (by kernel_rfl) hy hTy hc hTc (o2:= .cells [.bool true,Aq 20 l.length] 0 true) rfl rfl (fun ν o' e1 ho=>?_) (argsc:=[Al 21,.string k]) (fun ν e1 e2=>?_) (VC (by kernel_rfl)) rfl ?_
       .cases ho with
        | cells _ _ _ cc t lo hi he hcc hr hf=>
         refine .cells Tc _ 0 true cc t lo hi he ?_ hr (fun e=>by cases e);have hcc:Af Z [Value.bool true,Value.slice (some ⟨y,0,some 0⟩) l.length 18446744073709551616] (List.take 2 (List.drop Tc.d cc.toList)):=hcc;show Af ν [Value.bool true,Aq 20 l.length] (List.take 2 (List.drop Tc.d cc.toList));generalize List.take 2 (List.drop Tc.d cc.toList)=r at hcc;cases hcc with
         | cons g1 g2=>cases g2 with
          | cons g3 g4=>
           cases g4
           cases g1
           exact .cons (.bool _) (.cons (g3.JW hTy e1) .nil)
       .rw[hqq];cases h2
        exact .cons (h1.Pm hTc e2) (.cons (.string _) .nil)
       .rw[<-ZN,<-FZ l];exact(Av w6.pf (by kernel_rfl) (kV (l:=Dh l) (k:=k) (by rw[FZ];exact b2)))
   .cases hF
  .cases hF
 .cases hF
end Go.AB
namespace Go.AB
section
variable {base:Env}{W0:World}{Z:AW}{H:AA}{W:World}
theorem Wc(Z:AW):AW.le (fun _=>none) Z:=fun b x e=>by cases e
def AA.UZ(H:AA)(a j:Nat)(k:EK)(L:List (Option (List (EK.C k))))(l:List (EK.C k)):AA:=(H.put a (.abs (.mem k (L.set j none)) false)).alloc (.vec k l false)
theorem GZ{H:AA}{a j:Nat}{k:EK}{L:List (Option (List (EK.C k)))}{l:List (EK.C k)}(x:Nat):(H.UZ a j k L l).get x=if x=H.next then some (.vec k l false)else if x=a then some (.abs (.mem k (L.set j none)) false)else H.get x:=by
 unfold AA.UZ;rw[AA.AN];show(if x=H.next then _ else _)=_;split
 .rfl
 .rw[AA.AQ]
theorem AH.UZ(h:AH base W0 Z H W){a j:Nat}{k:EK}{L:List (Option (List (EK.C k)))}{l:List (EK.C k)}{T:BQ}(ha:H.get a=some (.abs (.mem k L) false))(hm:Z a=some T)(hj:L[j]? = some (some l)):
 ∃ts M,T.e=CO ts/\ts[j]? = some M/\AH base W0 (Z.ext H.next M) (H.UZ a j k L l) W:=by
 obtain⟨φ,q⟩:=h.abs;obtain⟨⟨ts,hR⟩,hK⟩:=q.rep a _ false T ha hm;have hlt:=h.lt ha;have hjt:j < ts.length:=by
  rw[hR.len];exact(List.getElem?_eq_some_iff.1 hj).1
 have hM:=AAU hjt;generalize ts[j]=M at hM;refine⟨ts,M,hR.code,hM,?_⟩;obtain⟨o',ho1,ho2⟩:=hR.row j M l hM hj;have hMs:M.c < W.heap.size:=lt_of_heap ho1;have hle:Z.le (Z.ext H.next M):=AW.CV M (h.fresh _ (AAT _)).2;have hφM:¬(AJ.vec k l false).void M->φ a M.c:=fun hv=>(hR.own _).2 ⟨j,M,l,hM,hj,hv,rfl⟩
 have key:∀b o T2,(H.UZ a j k L l).get b=some o->(Z.ext H.next M) b=some T2->(b=H.next/\o= .vec k l false/\T2=M)\/(b=a/\o= .abs (.mem k (L.set j none)) false/\T2=T)\/(b≠H.next/\b≠a/\H.get b=some o/\Z b=some T2):=by
  intro b o T2 hb hT;rw[GZ]at hb
  by_cases e:b=H.next
  .rw[AAZ e]at hb;cases hb
   subst e;rw[AW.AY]at hT;cases hT
   exact .inl ⟨rfl,rfl,rfl⟩
  .rw[AAW e]at hb;rw[AW.BB _ _ e]at hT
   by_cases e2:b=a
   .rw[AAZ e2]at hb;cases hb
    subst e2;rw[hm]at hT;cases hT
    exact .inr (.inl ⟨rfl,rfl,rfl⟩)
   .rw[AAW e2]at hb;exact .inr (.inr ⟨e,e2,hb,hT⟩)
 have C3:∀b o T2,H.get b=some o->Z b=some T2->b≠a->¬o.void T2->¬(AJ.vec k l false).void M->T2.c≠M.c:=by
  intro b o T2 hb hT hne hv hvM e;have:=(q.C3 a _ false T ha hm b o T2 hb hT hne).1 hv;rw[e]at this;exact this (hφM hvM)
 have hset:∀(i:Nat)(m:List (EK.C k)),(L.set j none)[i]? = some (some m)->i≠j/\L[i]? = some (some m):=by
  intro i m hi;rw[AAe]at hi
  by_cases e:j=i
  .rw[AAZ e]at hi;split at hi<;>cases hi
  .rw[AAW e]at hi;exact⟨fun h=>e h.symm,hi⟩
 have hset2:∀(i:Nat)(m:List (EK.C k)),i≠j->L[i]? = some (some m)->(L.set j none)[i]? = some (some m):=by
  intro i m e hi;rw[AAe,AAW (fun h=>e h.symm)];exact hi
 let φ':Nat->Nat->Prop:=fun b x=>if b=a then φ a x/\¬(¬(AJ.vec k l false).void M/\x=M.c)else φ b x
 have φa:∀x,φ' a x <-> (φ a x/\¬(¬(AJ.vec k l false).void M/\x=M.c)):=fun x=>by show(if a=a then _ else _) <-> _;rw[AAZ rfl]
 have φo:∀b,b≠a->φ' b=φ b:=fun b hb=>by funext x;show(if b=a then _ else _)=_;rw[AAW hb]
 have φs:∀b x,φ' b x->φ b x:=fun b x hx=>by
  by_cases e:b=a
  .subst e;exact((φa x).1 hx).1
  .rw[φo b e]at hx;exact hx
 refine⟨?_,?_,?_,?_,?_,h.size,h.below,h.out,h.os,⟨φ',?_,?_⟩,AW.le_trans h.le hle,h.grow⟩
 .intro b o hb T2 hT;rcases key b o T2 hb hT with⟨rfl,rfl,rfl⟩ | ⟨rfl,rfl,rfl⟩ | ⟨_,_,hb,hT⟩
  .exact⟨o',ho1,ho2.mono (Wc _)⟩
  .obtain⟨p,hp,_⟩:=h.obj b _ ha _ hm;exact⟨p,hp,.abs _ _ _ _⟩
  .obtain⟨p,hp,hp2⟩:=h.obj b o hb T2 hT;exact⟨p,hp,hp2.mono hle⟩
 .intro b o hb hr T2 hT hv;rcases key b o T2 hb hT with⟨rfl,rfl,rfl⟩ | ⟨rfl,rfl,rfl⟩ | ⟨_,_,hb,hT⟩
  .exact hK rfl _ (hφM hv)
  .exact absurd trivial hv
  .exact h.own b o hb hr T2 hT hv
 .intro b1 b2 o1 o2 h1 h2 T1 T2 m1 m2 v1 v2 hc hrr;rcases key b1 o1 T1 h1 m1 with⟨rfl,rfl,rfl⟩ | ⟨rfl,rfl,rfl⟩ | ⟨n1,n2,g1,k1⟩<;>rcases key b2 o2 T2 h2 m2 with⟨rfl,rfl,rfl⟩ | ⟨rfl,rfl,rfl⟩ | ⟨n3,n4,g2,k2⟩
  .rfl
  .exact absurd trivial v2
  .exact absurd hc.symm (C3 b2 o2 T2 g2 k2 n4 v2 v1)
  .exact absurd trivial v1
  .rfl
  .exact absurd trivial v1
  .exact absurd hc (C3 b1 o1 T1 g1 k1 n2 v1 v2)
  .exact absurd trivial v2
  .exact h.inj _ _ o1 o2 g1 g2 T1 T2 k1 k2 v1 v2 hc hrr
 .intro b hb;have hb:H.next+1<=b:=hb;refine⟨?_,by rw[AW.BB _ _ (by omega)];exact(h.fresh b (by omega)).2⟩;rw[GZ,AAW (by omega),AAW (by omega)];exact(h.fresh b (by omega)).1
 .intro b T2 hT
  by_cases e:b=H.next
  .subst e;rw[AW.AY]at hT;cases hT;exact hMs
  .rw[AW.BB _ _ e]at hT;exact h.bound b T2 hT
 .intro b c ro T2 hb hT;rcases key b _ T2 hb hT with⟨_,e,_⟩ | ⟨rfl,e,rfl⟩ | ⟨_,n2,hb,hT⟩
  .cases e
  .cases e
   refine⟨⟨ts,hR.code,by rw[AAk];exact hR.len,hR.ZJ,fun i N m h1 h2=>?_,fun i1 i2 N1 N2 m1 m2 h1 h2 h3 h4=>?_,fun x=>?_⟩,fun hro i hi=>hK rfl i (φs _ i hi)⟩
   .exact hR.row i N m h1 (hset i m h2).2
   .exact hR.inj i1 i2 N1 N2 m1 m2 h1 h2 (hset i1 m1 h3).2 (hset i2 m2 h4).2
   .rw[φa x,hR.own x];constructor
    .rintro⟨⟨i,N,m,g1,g2,g3,rfl⟩,h2⟩
     by_cases e:i=j
     .subst e;rw[hM]at g1;cases g1
      rw[hj]at g2;cases g2
      exact absurd ⟨g3,rfl⟩ h2
     .exact⟨i,N,m,g1,hset2 i m e g2,g3,rfl⟩
    .rintro⟨i,N,m,g1,g2,g3,rfl⟩;obtain⟨e,g4⟩:=hset i m g2;exact⟨⟨i,N,m,g1,g4,g3,rfl⟩,fun hh=>e (hR.inj i j N M m l g1 hM g4 hj g3 hh.1 hh.2)⟩
  .obtain⟨r1,r2⟩:=q.rep b c ro T2 hb hT;rw[φo b n2];exact⟨r1.mono hle,r2⟩
 .intro b c ro T2 hb hT b2 o2 T3 hb2 hT2 hne;rcases key b _ T2 hb hT with⟨_,e,_⟩ | ⟨rfl,e,rfl⟩ | ⟨_,n2,hb,hT⟩
  .cases e
  .rcases key b2 o2 T3 hb2 hT2 with⟨rfl,rfl,rfl⟩ | ⟨rfl,_,_⟩ | ⟨_,n4,g2,k2⟩
   .exact⟨fun hv2 hh=>((φa _).1 hh).2 ⟨hv2,rfl⟩,fun hh=>by cases hh⟩
   .exact absurd rfl hne
   .have:=q.C3 b _ false _ ha hm b2 o2 T3 g2 k2 n4;exact⟨fun hv2 hh=>this.1 hv2 (φs _ _ hh),fun h1 i hi hi2=>this.2 h1 i (φs _ _ hi) (φs _ _ hi2)⟩
  .rw[φo b n2];have hba:=q.C3 b c ro T2 hb hT a _ T ha hm (ABB n2);rcases key b2 o2 T3 hb2 hT2 with⟨rfl,rfl,rfl⟩ | ⟨rfl,rfl,rfl⟩ | ⟨_,n4,g2,k2⟩
   .exact⟨fun hv2 hh=>hba.2 rfl _ hh (hφM hv2),fun hh=>by cases hh⟩
   .exact⟨fun hv2=>absurd trivial hv2,fun _ i hi hi2=>hba.2 rfl i hi (φs _ _ hi2)⟩
   .have:=q.C3 b c ro T2 hb hT b2 o2 T3 g2 k2 hne;exact⟨this.1,fun h1 i hi hi2=>this.2 h1 i hi (φs _ _ hi2)⟩
theorem TI{ν Z:AW}{k:EK}(hk:k.all F8=true){l:List (EK.C k)}{M:BQ}{o':Obj}(h:Cb ν M (.vec k l false) o'):Cb Z M (.vec k l false) o':=by
 cases h with
 | vec _ _ _ _ hc=>
  cases hc with
  | cells _ _ _ c t lo hi he hc hr hf=>exact .vec M k l false _ (.cells M _ _ false c t lo hi he (Mj k hk l hc) hr hf)
 | D7 _ _ _ he hr hk0=>exact .D7 M k false _ he hr hk0
theorem AH.fS(h:AH base W0 Z H W){a z j:Nat}{k:EK}(hk:k.all F8=true){L:List (Option (List (EK.C k)))}{l:List (EK.C k)}{T M:BQ}{ts:List BQ}(ha:H.get a=some (.abs (.mem k (L.set j none)) false))(hm:Z a=some T)(hc:T.e=CO ts)(hM:ts[j]? = some M)(hz:H.get z=some (.vec k l false))(hzm:Z z=some M)(hj:j < L.length):AH base W0 Z ((H.del z).put a (.abs (.mem k (L.set j (some l))) false)) W:=by
 obtain⟨φ,q⟩:=h.abs;obtain⟨⟨us,hR⟩,hK⟩:=q.rep a _ false T ha hm;have hut:us=ts:=Hw (hR.code.symm.trans hc);subst hut;have hza:z≠a:=by rintro rfl;rw[ha]at hz;cases hz
 obtain⟨o',ho1,ho2⟩:=h.obj z _ hz M hzm;have get:∀x,((H.del z).put a (.abs (.mem k (L.set j (some l))) false)).get x=if x=a then some (.abs (.mem k (L.set j (some l))) false)else if x=z then none else H.get x:=fun x=>by
  rw[AA.AQ];split
  .rfl
  .rw[AA.BK]
 have key:∀b o T2,((H.del z).put a (.abs (.mem k (L.set j (some l))) false)).get b=some o->Z b=some T2->(b=a/\o= .abs (.mem k (L.set j (some l))) false/\T2=T)\/(b≠a/\b≠z/\H.get b=some o):=by
  intro b o T2 hb hT;rw[get]at hb
  by_cases e:b=a
  .rw[AAZ e]at hb;cases hb
   subst e;rw[hm]at hT;cases hT
   exact .inl ⟨rfl,rfl,rfl⟩
  .rw[AAW e]at hb
   by_cases e2:b=z
   .rw[AAZ e2]at hb;cases hb
   .rw[AAW e2]at hb;exact .inr ⟨e,e2,hb⟩
 have get1:∀(i:Nat)(m:List (EK.C k)),(L.set j (some l))[i]? = some (some m)->(i=j/\m=l)\/(i≠j/\(L.set j none)[i]? = some (some m)):=by
  intro i m hi;rw[AAe]at hi
  by_cases e:j=i
  .rw[AAZ e,AAZ hj]at hi;cases hi
   exact .inl ⟨e.symm,rfl⟩
  .rw[AAW e]at hi;refine .inr ⟨fun h=>e h.symm,?_⟩;rw[AAe,AAW e];exact hi
 have get2:∀(i:Nat)(m:List (EK.C k)),(L.set j none)[i]? = some (some m)->i≠j/\(L.set j (some l))[i]? = some (some m):=by
  intro i m hi;rw[AAe]at hi
  by_cases e:j=i
  .rw[AAZ e]at hi;split at hi<;>cases hi
  .rw[AAW e]at hi;refine⟨fun h=>e h.symm,?_⟩;rw[AAe,AAW e];exact hi
 have get3:(L.set j (some l))[j]? = some (some l):=by rw[AAe,AAZ rfl,AAZ hj]
 have zfar:=(q.C3 a _ false T ha hm z _ M hz hzm hza).1;let φ':Nat->Nat->Prop:=fun b x=>if b=a then φ a x\/(¬(AJ.vec k l false).void M/\x=M.c)else φ b x
 have φa:∀x,φ' a x <-> (φ a x\/(¬(AJ.vec k l false).void M/\x=M.c)):=fun x=>by show(if a=a then _ else _) <-> _;rw[AAZ rfl]
 have φo:∀b,b≠a->φ' b=φ b:=fun b hb=>by funext x;show(if b=a then _ else _)=_;rw[AAW hb]
 refine⟨?_,?_,?_,?_,h.bound,h.size,h.below,h.out,h.os,⟨φ',?_,?_⟩,h.le,h.grow⟩
 .intro b o hb T2 hT;rcases key b o T2 hb hT with⟨rfl,rfl,rfl⟩ | ⟨_,_,hb⟩
  .obtain⟨p,hp,_⟩:=h.obj b _ ha _ hm;exact⟨p,hp,.abs _ _ _ _⟩
  .exact h.obj b o hb T2 hT
 .intro b o hb hr T2 hT hv;rcases key b o T2 hb hT with⟨rfl,rfl,rfl⟩ | ⟨_,_,hb⟩
  .exact absurd trivial hv
  .exact h.own b o hb hr T2 hT hv
 .intro b1 b2 o1 o2 h1 h2 T1 T2 m1 m2 v1 v2 hcc hrr;rcases key b1 o1 T1 h1 m1 with⟨rfl,rfl,rfl⟩ | ⟨n1,n2,g1⟩<;>rcases key b2 o2 T2 h2 m2 with⟨rfl,rfl,rfl⟩ | ⟨n3,n4,g2⟩
  .rfl
  .exact absurd trivial v1
  .exact absurd trivial v2
  .exact h.inj _ _ o1 o2 g1 g2 T1 T2 m1 m2 v1 v2 hcc hrr
 .intro b hb;have hb:H.next<=b:=hb;refine⟨?_,(h.fresh b hb).2⟩;have hlt:=h.lt ha;rw[get,AAW (by omega)];split
  .rfl
  .exact(h.fresh b hb).1
 .intro b c ro T2 hb hT;rcases key b _ T2 hb hT with⟨rfl,e,rfl⟩ | ⟨n1,n2,hb⟩
  .cases e
   refine⟨⟨us,hR.code,by rw[AAk];have:=hR.len;rw[AAk]at this;exact this,hR.ZJ,fun i N m h1 h2=>?_,fun i1 i2 N1 N2 m1 m2 h1 h2 h3 h4 v1 v2 hcc=>?_,fun x=>?_⟩,fun hro i hi=>?_⟩
   .rcases get1 i m h2 with⟨rfl,rfl⟩ | ⟨_,h2⟩
    .rw[hM]at h1;cases h1
     exact⟨o',ho1,TI hk ho2⟩
    .exact hR.row i N m h1 h2
   .rcases get1 i1 m1 h3 with⟨e1,e2⟩ | ⟨e1,g3⟩<;>rcases get1 i2 m2 h4 with⟨e3,e4⟩ | ⟨e3,g4⟩
    .exact e1.trans e3.symm
    .subst e1 e2;rw[hM]at h1;cases h1
     exact absurd (hcc ▸ (hR.own _).2 ⟨i2,N2,m2,h2,g4,v2,rfl⟩) (zfar v1)
    .subst e3 e4;rw[hM]at h2;cases h2
     exact absurd (hcc ▸ (hR.own _).2 ⟨i1,N1,m1,h1,g3,v1,rfl⟩) (zfar v2)
    .exact hR.inj i1 i2 N1 N2 m1 m2 h1 h2 g3 g4 v1 v2 hcc
   .rw[φa x,hR.own x];constructor
    .rintro(⟨i,N,m,g1,g2,g3,rfl⟩ | ⟨h1,rfl⟩)
     .exact⟨i,N,m,g1,(get2 i m g2).2,g3,rfl⟩
     .exact⟨j,M,l,hM,get3,h1,rfl⟩
    .rintro⟨i,N,m,g1,g2,g3,rfl⟩;rcases get1 i m g2 with⟨rfl,rfl⟩ | ⟨_,g2⟩
     .rw[hM]at g1;cases g1
      exact .inr ⟨g3,rfl⟩
     .exact .inl ⟨i,N,m,g1,g2,g3,rfl⟩
   .rcases(φa i).1 hi with hi | ⟨hv,rfl⟩
    .exact hK rfl i hi
    .exact h.own z _ hz rfl M hzm hv
  .rw[φo b n1];exact q.rep b c ro T2 hb hT
 .intro b c ro T2 hb hT b2 o2 T3 hb2 hT2 hne;rcases key b _ T2 hb hT with⟨rfl,e,rfl⟩ | ⟨n1,n2,hb'⟩
  .rcases key b2 o2 T3 hb2 hT2 with⟨rfl,_,_⟩ | ⟨n3,n4,g2⟩
   .exact absurd rfl hne
   .have:=q.C3 b _ false _ ha hm b2 o2 T3 g2 hT2 n3;refine⟨fun hv2 hh=>?_,fun h1 i hi hi2=>?_⟩
    .rcases(φa _).1 hh with hh | ⟨hv,e⟩
     .exact this.1 hv2 hh
     .exact n4 (h.inj b2 z o2 _ g2 hz T3 M hT2 hzm hv2 hv e (.inr rfl))
    .rw[φo b2 n3]at hi2;rcases(φa _).1 hi with hi | ⟨hv,rfl⟩
     .exact this.2 h1 i hi hi2
     .cases o2<;>first | (cases h1;done) | skip
      exact(q.C3 b2 _ _ T3 g2 hT2 z _ M hz hzm (ABB n4)).1 hv hi2
  .rw[φo b n1];rcases key b2 o2 T3 hb2 hT2 with⟨rfl,rfl,rfl⟩ | ⟨n3,n4,g2⟩
   .have:=q.C3 b c ro T2 hb' hT b2 _ _ ha hm hne;refine⟨fun hv2=>absurd trivial hv2,fun _ i hi hi2=>?_⟩;rcases(φa _).1 hi2 with hi2 | ⟨hv,rfl⟩
    .exact this.2 rfl i hi hi2
    .exact(q.C3 b c ro T2 hb' hT z _ M hz hzm (ABB n2)).1 hv hi
   .have:=q.C3 b c ro T2 hb' hT b2 o2 T3 g2 hT2 hne;rw[φo b2 n3];exact this
end
section
variable {base:Env}{W0:World}{Z:AW}{H:AA}{W:World}
theorem AH.renew(h:AH base W0 Z H W){a:Nat}{k:EK}{L L2:List (Option (List (EK.C k)))}{T:BQ}{ts ts2:List BQ}(ha:H.get a=some (.abs (.mem k L) false))(hm:Z a=some T)(hc:T.e=CO ts)(hlen:ts2.length=L2.length)(hsel:∀(i:Nat)(N:BQ)(m:List (EK.C k)),ts2[i]? = some N->L2[i]? = some (some m)->ts[i]? = some N/\L[i]? = some (some m)):
 AH base W0 (Z.ext H.next { T with e:=CO ts2 }) ((H.del a).alloc (.abs (.mem k L2) false)) W:=by
 obtain⟨φ,q⟩:=h.abs;obtain⟨⟨us,hR⟩,hK⟩:=q.rep a _ false T ha hm;have hut:us=ts:=Hw (hR.code.symm.trans hc);subst hut;have hlt:=h.lt ha;generalize hT2:({ T with e:=CO ts2 }:BQ)=T2;have hTc:T2.c=T.c:=by rw[<-hT2]
 have hTe:T2.e=CO ts2:=by rw[<-hT2]
 have hle:Z.le (Z.ext H.next T2):=AW.CV T2 (h.fresh _ (AAT _)).2;have get:∀x,((H.del a).alloc (.abs (.mem k L2) false)).get x=if x=H.next then some (.abs (.mem k L2) false)else if x=a then none else H.get x:=fun x=>by
  rw[AA.AN];show(if x=H.next then _ else _)=_;split
  .rfl
  .rw[AA.BK]
 have key:∀b o T3,((H.del a).alloc (.abs (.mem k L2) false)).get b=some o->(Z.ext H.next T2) b=some T3->(b=H.next/\o= .abs (.mem k L2) false/\T3=T2)\/(b≠H.next/\b≠a/\H.get b=some o/\Z b=some T3):=by
  intro b o T3 hb hT;rw[get]at hb
  by_cases e:b=H.next
  .rw[AAZ e]at hb;cases hb
   subst e;rw[AW.AY]at hT;cases hT
   exact .inl ⟨rfl,rfl,rfl⟩
  .rw[AAW e]at hb;rw[AW.BB _ _ e]at hT
   by_cases e2:b=a
   .rw[AAZ e2]at hb;cases hb
   .rw[AAW e2]at hb;exact .inr ⟨e,e2,hb,hT⟩
 let F2:Nat->Prop:=fun x=>∃(j:Nat) (M:BQ) (l:List (EK.C k)),ts2[j]? = some M/\L2[j]? = some (some l)/\¬(AJ.vec k l false).void M/\x=M.c
 have hF:∀x,F2 x->φ a x:=fun x hx=>by
  obtain⟨j,M,l,h1,h2,h3,rfl⟩:=hx;obtain⟨g1,g2⟩:=hsel j M l h1 h2;exact(hR.own _).2 ⟨j,M,l,g1,g2,h3,rfl⟩
 let φ':Nat->Nat->Prop:=fun b x=>if b=H.next then F2 x else φ b x
 have φn:∀x,φ' H.next x <-> F2 x:=fun x=>by show(if H.next=H.next then _ else _) <-> _;rw[AAZ rfl]
 have φo:∀b,b≠H.next->φ' b=φ b:=fun b hb=>by funext x;show(if b=H.next then _ else _)=_;rw[AAW hb]
 refine⟨?_,?_,?_,?_,?_,h.size,h.below,h.out,h.os,⟨φ',?_,?_⟩,AW.le_trans h.le hle,h.grow⟩
 .intro b o hb T3 hT;rcases key b o T3 hb hT with⟨rfl,rfl,rfl⟩ | ⟨_,_,hb,hT⟩
  .obtain⟨p,hp,_⟩:=h.obj a _ ha _ hm;exact⟨p,by rw[hTc];exact hp,.abs _ _ _ _⟩
  .obtain⟨p,hp,hp2⟩:=h.obj b o hb T3 hT;exact⟨p,hp,hp2.mono hle⟩
 .intro b o hb hr T3 hT hv;rcases key b o T3 hb hT with⟨rfl,rfl,rfl⟩ | ⟨_,_,hb,hT⟩
  .exact absurd trivial hv
  .exact h.own b o hb hr T3 hT hv
 .intro b1 b2 o1 o2 h1 h2 T3 T4 m1 m2 v1 v2 hcc hrr;rcases key b1 o1 T3 h1 m1 with⟨rfl,rfl,rfl⟩ | ⟨n1,n2,g1,k1⟩<;>rcases key b2 o2 T4 h2 m2 with⟨rfl,rfl,rfl⟩ | ⟨n3,n4,g2,k2⟩
  .rfl
  .exact absurd trivial v1
  .exact absurd trivial v2
  .exact h.inj _ _ o1 o2 g1 g2 T3 T4 k1 k2 v1 v2 hcc hrr
 .intro b hb;have hb:H.next+1<=b:=hb;refine⟨?_,by rw[AW.BB _ _ (by omega)];exact(h.fresh b (by omega)).2⟩;rw[get,AAW (by omega),AAW (by omega)];exact(h.fresh b (by omega)).1
 .intro b T3 hT
  by_cases e:b=H.next
  .subst e;rw[AW.AY]at hT;cases hT
   rw[hTc];exact h.bound a T hm
  .rw[AW.BB _ _ e]at hT;exact h.bound b T3 hT
 .intro b c ro T3 hb hT;rcases key b _ T3 hb hT with⟨rfl,e,rfl⟩ | ⟨n1,_,hb,hT⟩
  .cases e
   refine⟨⟨ts2,hTe,hlen,by rw[hTc];exact hR.ZJ,fun i N m h1 h2=>?_,fun i1 i2 N1 N2 m1 m2 h1 h2 h3 h4=>?_,φn⟩,fun hro i hi=>hK rfl i (hF i ((φn i).1 hi))⟩
   .obtain⟨g1,g2⟩:=hsel i N m h1 h2;exact hR.row i N m g1 g2
   .obtain⟨g1,g3⟩:=hsel i1 N1 m1 h1 h3;obtain⟨g2,g4⟩:=hsel i2 N2 m2 h2 h4;exact hR.inj i1 i2 N1 N2 m1 m2 g1 g2 g3 g4
  .obtain⟨r1,r2⟩:=q.rep b c ro T3 hb hT;rw[φo b n1];exact⟨r1.mono hle,r2⟩
 .intro b c ro T3 hb hT b2 o2 T4 hb2 hT4 hne;rcases key b _ T3 hb hT with⟨rfl,e,rfl⟩ | ⟨n1,n2,g1,k1⟩
  .cases e
   rcases key b2 o2 T4 hb2 hT4 with⟨rfl,_,_⟩ | ⟨n3,n4,g2,k2⟩
   .exact absurd rfl hne
   .have:=q.C3 a _ false _ ha hm b2 o2 T4 g2 k2 n4;rw[φo b2 n3];exact⟨fun hv2 hh=>this.1 hv2 (hF _ ((φn _).1 hh)),fun h1 i hi hi2=>this.2 h1 i (hF _ ((φn _).1 hi)) hi2⟩
  .rw[φo b n1];rcases key b2 o2 T4 hb2 hT4 with⟨rfl,rfl,rfl⟩ | ⟨n3,n4,g2,k2⟩
   .have hba:=q.C3 b c ro T3 g1 k1 a _ T ha hm (ABB n2);exact⟨fun hv2=>absurd trivial hv2,fun _ i hi hi2=>hba.2 rfl i hi (hF _ ((φn _).1 hi2))⟩
   .rw[φo b2 n3];exact q.C3 b c ro T3 g1 k1 b2 o2 T4 g2 k2 hne
theorem AF.yg{Z ν:AW}{z n j len cap:Nat}{M T:BQ}{v':Value}(hz:Z z=some M)(hn:ν n=some T)(hm:KW T.e j=some M)(h:AF Z (.slice (some ⟨z,0,some 0⟩) len cap) v'):AF ν (.slice (some ⟨n,1,some j⟩) len cap) v':=by
 cases h with
 | Bd _ _ _ _ cap' o' T' h hc ho hr=>
  rw[hz]at h;cases h
  exact .C9 n j len cap cap' o' T M hn hm (by rw[ABy]at hc;exact hc) (by rw[ABy,AB6]at ho;exact ho) hr
 | Dz _ _ _ T' a h hc=>exact .GI n j cap T a hn hc
theorem AF.xG{Z ν:AW}{a z j len cap:Nat}{M T:BQ}{v':Value}(ha:Z a=some T)(hm:KW T.e j=some M)(hz:ν z=some M)(h:AF Z (.slice (some ⟨a,1,some j⟩) len cap) v'):AF ν (.slice (some ⟨z,0,some 0⟩) len cap) v':=by
 cases h with
 | C9 _ _ _ _ cap' o' T' M' h hm' hc ho hr=>
  rw[ha]at h;cases h
  rw[hm]at hm';cases hm'
  exact .Bd z 0 len cap cap' o' M hz (by rw[ABy];exact hc) (by rw[ABy,AB6];exact ho) hr
 | GI _ _ _ T' x h hc=>exact .Dz z 0 cap M x hz hc
theorem AF.tW{Z ν:AW}{a n j i len cap:Nat}{T T2:BQ}{v':Value}(ha:Z a=some T)(hn:ν n=some T2)(hm:∀M,KW T.e j=some M->KW T2.e i=some M)(h:AF Z (.slice (some ⟨a,1,some j⟩) len cap) v'):AF ν (.slice (some ⟨n,1,some i⟩) len cap) v':=by
 cases h with
 | C9 _ _ _ _ cap' o' T' M' h hm' hc ho hr=>
  rw[ha]at h;cases h
  exact .C9 n i len cap cap' o' T2 M' hn (hm M' hm') hc ho hr
 | GI _ _ _ T' x h hc=>exact .GI n i cap T2 x hn hc
def AA.freeze(H:AA)(a z:Nat)(k:EK)(L:List (Option (List (EK.C k))))(l:List (EK.C k)):AA:=((((H.del a).alloc (.abs (.mem k (L++[none])) false)).del z).put H.next (.abs (.mem k (L++[some l])) false))
theorem AH.freeze(h:AH base W0 Z H W){a z:Nat}{k:EK}(hk:k.all F8=true){L:List (Option (List (EK.C k)))}{l:List (EK.C k)}{T M:BQ}(ha:H.get a=some (.abs (.mem k L) false))(hm:Z a=some T)(hz:H.get z=some (.vec k l false))(hzm:Z z=some M):∃ts,T.e=CO ts/\ts.length=L.length/\AH base W0 (Z.ext H.next { T with e:=CO (ts++[M]) }) (H.freeze a z k L l) W:=by
 obtain⟨φ,q⟩:=h.abs;obtain⟨⟨ts,hR⟩,_⟩:=q.rep a _ false T ha hm;refine⟨ts,hR.code,hR.len,?_⟩;have hza:z≠a:=by rintro rfl;rw[ha]at hz;cases hz
 have hzl:=h.lt hz;have h1:=h.renew (L2:=L++[none]) (ts2:=ts++[M]) ha hm hR.code (by rw[AAf,AAf,hR.len];rfl) (fun i N m g1 g2=>by
  rcases AAt i L.length with hi | hi
  .rw[ABD hi]at g2;rw[ABD (by rw[hR.len];exact hi)]at g1;exact⟨g1,g2⟩
  .rw[ABG hi]at g2;generalize i - L.length=x at g2;cases x with
   | zero=>cases g2
   | succ x=>cases g2)
 have e1:∀v:Option (List (EK.C k)),(L++[none]).set L.length v=L++[v]:=fun v=>by
  rw[ACq _ _ (AAT _),ABQ];rfl
 have h2:=h1.fS (a:=H.next) (z:=z) (j:=L.length) hk (L:=L++[none]) (l:=l) (T:={ T with e:=CO (ts++[M]) }) (M:=M) (ts:=ts++[M]) (by rw[e1,AA.AN];exact AAZ rfl) (AW.AY _ _ _) rfl
  (by rw[<-hR.len,ABG (AAT _),ABQ];rfl) (by rw[AA.AN,AAW (by show z≠H.next;omega),AA.BK,AAW hza];exact hz) (by rw[AW.BB _ _ (by omega)];exact hzm) (by rw[AAf];exact Nat.lt_succ_self _)
 rw[e1]at h2;exact h2
end
section
variable {base:Env}{W0:World}{Z:AW}{H:AA}{W:World}
theorem AH.tc(h:AH base W0 Z H W){a:Nat}{k:EK}{L L2:List (Option (List (EK.C k)))}{T:BQ}{ts ts2:List BQ}(ha:H.get a=some (.abs (.mem k L) false))(hm:Z a=some T)(hc:T.e=CO ts)(hlen:ts2.length=L2.length)(σ:Nat->Nat)(hsel:∀(i:Nat)(N:BQ)(m:List (EK.C k)),ts2[i]? = some N->L2[i]? = some (some m)->ts[σ i]? = some N/\L[σ i]? = some (some m))(hσ:∀(i j:Nat)(m m':List (EK.C k)),L2[i]? = some (some m)->L2[j]? = some (some m')->σ i=σ j->i=j):
 AH base W0 (Z.ext H.next { T with e:=CO ts2 }) ((H.del a).alloc (.abs (.mem k L2) false)) W:=by
 obtain⟨φ,q⟩:=h.abs;obtain⟨⟨us,hR⟩,hK⟩:=q.rep a _ false T ha hm;have hut:us=ts:=Hw (hR.code.symm.trans hc);subst hut;have hlt:=h.lt ha;generalize hT2:({ T with e:=CO ts2 }:BQ)=T2;have hTc:T2.c=T.c:=by rw[<-hT2]
 have hTe:T2.e=CO ts2:=by rw[<-hT2]
 have hle:Z.le (Z.ext H.next T2):=AW.CV T2 (h.fresh _ (AAT _)).2;have get:∀x,((H.del a).alloc (.abs (.mem k L2) false)).get x=if x=H.next then some (.abs (.mem k L2) false)else if x=a then none else H.get x:=fun x=>by
  rw[AA.AN];show(if x=H.next then _ else _)=_;split
  .rfl
  .rw[AA.BK]
 have key:∀b o T3,((H.del a).alloc (.abs (.mem k L2) false)).get b=some o->(Z.ext H.next T2) b=some T3->(b=H.next/\o= .abs (.mem k L2) false/\T3=T2)\/(b≠H.next/\b≠a/\H.get b=some o/\Z b=some T3):=by
  intro b o T3 hb hT;rw[get]at hb
  by_cases e:b=H.next
  .rw[AAZ e]at hb;cases hb
   subst e;rw[AW.AY]at hT;cases hT
   exact .inl ⟨rfl,rfl,rfl⟩
  .rw[AAW e]at hb;rw[AW.BB _ _ e]at hT
   by_cases e2:b=a
   .rw[AAZ e2]at hb;cases hb
   .rw[AAW e2]at hb;exact .inr ⟨e,e2,hb,hT⟩
 let F2:Nat->Prop:=fun x=>∃(j:Nat) (M:BQ) (l:List (EK.C k)),ts2[j]? = some M/\L2[j]? = some (some l)/\¬(AJ.vec k l false).void M/\x=M.c
 have hF:∀x,F2 x->φ a x:=fun x hx=>by
  obtain⟨j,M,l,h1,h2,h3,rfl⟩:=hx;obtain⟨g1,g2⟩:=hsel j M l h1 h2;exact(hR.own _).2 ⟨σ j,M,l,g1,g2,h3,rfl⟩
 let φ':Nat->Nat->Prop:=fun b x=>if b=H.next then F2 x else φ b x
 have φn:∀x,φ' H.next x <-> F2 x:=fun x=>by show(if H.next=H.next then _ else _) <-> _;rw[AAZ rfl]
 have φo:∀b,b≠H.next->φ' b=φ b:=fun b hb=>by funext x;show(if b=H.next then _ else _)=_;rw[AAW hb]
 refine⟨?_,?_,?_,?_,?_,h.size,h.below,h.out,h.os,⟨φ',?_,?_⟩,AW.le_trans h.le hle,h.grow⟩
 .intro b o hb T3 hT;rcases key b o T3 hb hT with⟨rfl,rfl,rfl⟩ | ⟨_,_,hb,hT⟩
  .obtain⟨p,hp,_⟩:=h.obj a _ ha _ hm;exact⟨p,by rw[hTc];exact hp,.abs _ _ _ _⟩
  .obtain⟨p,hp,hp2⟩:=h.obj b o hb T3 hT;exact⟨p,hp,hp2.mono hle⟩
 .intro b o hb hr T3 hT hv;rcases key b o T3 hb hT with⟨rfl,rfl,rfl⟩ | ⟨_,_,hb,hT⟩
  .exact absurd trivial hv
  .exact h.own b o hb hr T3 hT hv
 .intro b1 b2 o1 o2 h1 h2 T3 T4 m1 m2 v1 v2 hcc hrr;rcases key b1 o1 T3 h1 m1 with⟨rfl,rfl,rfl⟩ | ⟨n1,n2,g1,k1⟩<;>rcases key b2 o2 T4 h2 m2 with⟨rfl,rfl,rfl⟩ | ⟨n3,n4,g2,k2⟩
  .rfl
  .exact absurd trivial v1
  .exact absurd trivial v2
  .exact h.inj _ _ o1 o2 g1 g2 T3 T4 k1 k2 v1 v2 hcc hrr
 .intro b hb;have hb:H.next+1<=b:=hb;refine⟨?_,by rw[AW.BB _ _ (by omega)];exact(h.fresh b (by omega)).2⟩;rw[get,AAW (by omega),AAW (by omega)];exact(h.fresh b (by omega)).1
 .intro b T3 hT
  by_cases e:b=H.next
  .subst e;rw[AW.AY]at hT;cases hT
   rw[hTc];exact h.bound a T hm
  .rw[AW.BB _ _ e]at hT;exact h.bound b T3 hT
 .intro b c ro T3 hb hT;rcases key b _ T3 hb hT with⟨rfl,e,rfl⟩ | ⟨n1,_,hb,hT⟩
  .cases e
   refine⟨⟨ts2,hTe,hlen,by rw[hTc];exact hR.ZJ,fun i N m h1 h2=>?_,fun i1 i2 N1 N2 m1 m2 h1 h2 h3 h4 v1 v2 e=>?_,φn⟩,fun hro i hi=>hK rfl i (hF i ((φn i).1 hi))⟩
   .obtain⟨g1,g2⟩:=hsel i N m h1 h2;exact hR.row (σ i) N m g1 g2
   .obtain⟨g1,g3⟩:=hsel i1 N1 m1 h1 h3;obtain⟨g2,g4⟩:=hsel i2 N2 m2 h2 h4;exact hσ i1 i2 m1 m2 h3 h4 (hR.inj (σ i1) (σ i2) N1 N2 m1 m2 g1 g2 g3 g4 v1 v2 e)
  .obtain⟨r1,r2⟩:=q.rep b c ro T3 hb hT;rw[φo b n1];exact⟨r1.mono hle,r2⟩
 .intro b c ro T3 hb hT b2 o2 T4 hb2 hT4 hne;rcases key b _ T3 hb hT with⟨rfl,e,rfl⟩ | ⟨n1,n2,g1,k1⟩
  .cases e
   rcases key b2 o2 T4 hb2 hT4 with⟨rfl,_,_⟩ | ⟨n3,n4,g2,k2⟩
   .exact absurd rfl hne
   .have:=q.C3 a _ false _ ha hm b2 o2 T4 g2 k2 n4;rw[φo b2 n3];exact⟨fun hv2 hh=>this.1 hv2 (hF _ ((φn _).1 hh)),fun h1 i hi hi2=>this.2 h1 i (hF _ ((φn _).1 hi)) hi2⟩
  .rw[φo b n1];rcases key b2 o2 T4 hb2 hT4 with⟨rfl,rfl,rfl⟩ | ⟨n3,n4,g2,k2⟩
   .have hba:=q.C3 b c ro T3 g1 k1 a _ T ha hm (ABB n2);exact⟨fun hv2=>absurd trivial hv2,fun _ i hi hi2=>hba.2 rfl i hi (hF _ ((φn _).1 hi2))⟩
   .rw[φo b2 n3];exact q.C3 b c ro T3 g1 k1 b2 o2 T4 g2 k2 hne
theorem AH.fL(h:AH base W0 Z H W){a z j:Nat}{k:EK}(hk:k.all F8=true){L L2:List (Option (List (EK.C k)))}{l:List (EK.C k)}{T M:BQ}{ts ts2:List BQ}(ha:H.get a=some (.abs (.mem k L) false))(hm:Z a=some T)(hc:T.e=CO ts)(hz:H.get z=some (.vec k l false))(hzm:Z z=some M)(hlen:ts2.length=L2.length)(hj:L2[j]? = some none)(hM:ts2[j]? = some M)(σ:Nat->Nat)(hsel:∀(i:Nat)(N:BQ)(m:List (EK.C k)),ts2[i]? = some N->L2[i]? = some (some m)->ts[σ i]? = some N/\L[σ i]? = some (some m))(hσ:∀(i j:Nat)(m m':List (EK.C k)),L2[i]? = some (some m)->L2[j]? = some (some m')->σ i=σ j->i=j):
 ∃T2:BQ,T2.e=CO ts2/\AH base W0 (Z.ext H.next T2) ((((H.del a).alloc (.abs (.mem k L2) false)).del z).put H.next (.abs (.mem k (L2.set j (some l))) false)) W:=by
 refine⟨{ T with e:=CO ts2 },rfl,?_⟩;have h1:=h.tc (L2:=L2) (ts2:=ts2) ha hm hc hlen σ hsel hσ;have hza:z≠a:=by rintro rfl;rw[ha]at hz;cases hz
 have hzl:=h.lt hz;have e1:L2.set j none=L2:=by
  obtain⟨q1,q2⟩:=List.getElem?_eq_some_iff.1 hj;rw[<-q2,AB1]
 exact h1.fS (a:=H.next) (z:=z) (j:=j) hk (L:=L2) (l:=l) (T:={ T with e:=CO ts2 }) (M:=M) (ts:=ts2) (by rw[e1,AA.AN];exact AAZ rfl) (AW.AY _ _ _) rfl hM
  (by rw[AA.AN,AAW (by show z≠H.next;omega),AA.BK,AAW hza];exact hz) (by rw[AW.BB _ _ (by omega)];exact hzm) (List.getElem?_eq_some_iff.1 hj).1
theorem GQ{a z j:Nat}{k:EK}{L2:List (Option (List (EK.C k)))}{l:List (EK.C k)}(x:Nat):((((H.del a).alloc (.abs (.mem k L2) false)).del z).put H.next (.abs (.mem k (L2.set j (some l))) false)).get x=if x=H.next then some (.abs (.mem k (L2.set j (some l))) false)else if x=z then none else if x=a then none else H.get x:=by
 rw[AA.AQ];split
 .rfl
 .rename_i h;rw[AA.BK];split
  .rfl
  .rw[AA.AN,AAW (by show x≠H.next;exact h),AA.BK]
theorem AH.JZ(h:AH base W0 Z H W){b:Nat}{k:EK}{x x':List (EK.C k)}{ro:Bool}(hb:H.get b=some (.vec k x ro))(hlen:x'.length=x.length)(hv:∀w,Af Z (Ac k x) w->Af Z (Ac k x') w):AH base W0 Z (H.put b (.vec k x' ro)) W:=by
 refine h.swap hb (fun T o' _ ho=>?_) rfl rfl rfl (fun T _ hvd=>?_)
 .have hl2:(Ac k x').length=(Ac k x).length:=by rw[A7,A7,hlen]
  cases ho with
  | vec _ _ _ _ hc=>
   cases hc with
   | cells _ _ _ c t lo hi he hc hr hf=>
    refine .vec T k x' ro _ (.cells T _ _ ro c t lo hi he ?_ hr hf);rw[hl2];exact hv _ hc
  | D7 _ _ _ he hr hk0=>
   have:x'=[]:=AAp hlen;subst this;exact .D7 T k ro _ he hr hk0
 .obtain⟨h1,h2,h3⟩:=hvd;exact⟨AAp (by rw[hlen,h1];rfl),h2,h3⟩
end
section
variable {X:Ctx}{N:Nat}{D:Nat->Prop}{f:FuncId}{Q:H5}
theorem AZ.Tf{t:Tr Value}{n:Nat}{code:Code}{H:AA}(st:∀(base:Env)(W0:World)(Z:AW)(W:World),(∀b,D b->∃T,Z b=some T)->AH base W0 Z H W->
 ∃(μ2:AW) (H2:AA) (N2:Nat) (D2:Nat->Prop),Z.le μ2/\AH base W0 μ2 H2 W/\H2.next<=N2/\(∀b,D2 b->∃T,μ2 b=some T)/\AZ X N2 D2 f Q (Du f t n code H2)):AZ X N D f Q (Du f t n code H):=by
 intro base W0 hb0 hDm hok hplan cs0 Z fr cs W hm;obtain⟨hH,hlaid,g,gs,hfr,hcs,hnd⟩:=hm;obtain⟨μ2,H2,N2,D2,k1,k2,hN,k3,h⟩:=st base W0 Z W (fun b hb=>by obtain⟨T,hT⟩:=hDm b hb;exact⟨T,hH.le b T hT⟩) hH;have hle:base.gN.le μ2:=AW.le_trans hH.le k1;have hm2:JD X ⟨base.K,μ2⟩ W0 μ2 (Du f t n code H2) fr cs W:=by
  refine⟨k2.env (AW.le_refl _),hlaid.mono k1,?_⟩;cases hcs
  cases hfr with
  | plain fn t n tm todo todo' ds ds' r kd rd rd' ht hi hd hr=>exact⟨[],[],.plain _ _ _ _ _ _ _ _ _ _ _ _ (ht.mono k1) (hi.mono k1) (hd.mono k1) (hr.mono k1),.nil,by simp⟩
 obtain⟨c',v,H1,v1,H3,h1,h3,μ1,fr1,cs1,W1,s1,m1,h2⟩:=h ⟨base.K,μ2⟩ W0 (fun b T hT=>ABR (k2.L9 hT) hN) k3 (hok.env hle) hplan cs0 μ2 fr cs W hm2;have up:∀{ν:AW}{H:AA}{W:World},AH ⟨base.K,μ2⟩ W0 ν H W->AH base W0 ν H W:=fun g=>⟨g.obj,g.own,g.inj,g.fresh,g.bound,g.size,g.below,g.out,g.os,(let ⟨φ,q⟩:=g.abs;⟨φ,q.rep,q.C3⟩),AW.le_trans hle g.le,g.grow⟩
 refine⟨c',v,H1,v1,H3,h1,h3,μ1,fr1,cs1,W1,s1,⟨up m1.heap,m1.laid,m1.YC⟩,fun v' hv hH2=>?_⟩;obtain⟨μ3,g0,g1,g2⟩:=h2 v' hv (hH2.env m1.heap.le);exact⟨μ3,g0,up g1,g2⟩
theorem AZ.Uo{N2:Nat}{D2:Nat->Prop}{t:Tr Value}{n:Nat}{code:Code}{H H2:AA}(h:AZ X N2 D2 f Q (Du f t n code H2))(st:∀(base:Env)(W0:World)(Z:AW)(W:World),(∀b,D b->∃T,Z b=some T)->AH base W0 Z H W->∃μ2,Z.le μ2/\AH base W0 μ2 H2 W/\∀b,D2 b->∃T,μ2 b=some T)(hN:H2.next<=N2):AZ X N D f Q (Du f t n code H):=
 AZ.Tf fun base W0 Z W hD hH=>let ⟨μ2,k1,k2,k3⟩:=st base W0 Z W hD hH;⟨μ2,H2,N2,D2,k1,k2,hN,k3,h⟩
theorem AZ.mH{N2:Nat}{t:Tr Value}{n:Nat}{code:Code}{H:AA}{b:Nat}{s:Pk}{ro:Bool}(hD:D b)(hb:H.get b=some (.abs (.pack s) ro))(h:∀objs,Bh s objs->∃H',EU H b ro objs H' (DO s)/\H'.next<=N2/\AZ X N2 (fun x=>∃i,i < objs.length/\x=CN b H.next i) f Q (Du f t n code H')):AZ X N D f Q (Du f t n code H):=
 AZ.Tf fun base W0 Z W hDm hH=>by
  obtain⟨T,hT⟩:=hDm b hD;obtain⟨objs,hr,ho⟩:=hH.opened hb hT;obtain⟨H',hO,hn,hrun⟩:=h objs hr;obtain⟨μ',hH',hE,hk⟩:=ho H' hO;exact⟨μ',H',N2,_,hE.le,hH',hn,fun x ⟨i,hi,e⟩=>by rw[e];exact hk i hi,hrun⟩
end
theorem Ug{P:Program}{laid:DD}{fs:List (FuncId × DL)}{N:Nat}(hfs:CQ P laid fs)(hm:P.follows .mixedOrders=true)(hN:(laid.all fun p=>Nat.blt p.1 N)=true){f:FuncId}{n:Nat}(he:entry P f=some (n,BN P f [])){q:Gz}(hx:∀s,DO s=[])(hrun:∀s rest os,(q s rest os).Ut fun x=>rest.length+1<=n/\∀objs,Bh s objs->
  ∃H' N2,EU (DT ⟨.leaf,N⟩ (.abs (.pack s) false::Eg [true] 1 os)) N false objs H' []/\H'.next<=N2/\
   AZ (BY P laid fs) N2 (fun x=>∃i,i < objs.length/\x=CN N (N+(os.length+1)) i) f (fun v H=>D1 laid N (os.length+1) [true] ⟨x.v,[some (.abs (.pack x.nx) false)],x.news⟩ v H) (Du f (CP 0 (.pointer (some ⟨N,0,none⟩)::rest) .leaf) n (BN P f []) H')):
 CH P laid f (Ab laid N [true] (Cl N q)):=by
 refine Ar hfs hm he hN fun argsc objs y hxr hro=>?_
 unfold Cl at hxr;split at hxr
 .rename_i b rest s ro os;cases hb:Nat.beq b N
  .simp only[hb,AAR,GT.run]at hxr;cases hxr
  .simp only[hb,AAO]at hxr;have hb:=AAP hb;subst hb;have hr0:ro=false:=hro 0 _ rfl rfl;subst hr0;obtain⟨x,⟨g1,g2⟩,rfl⟩:=PT.NQ (hrun s rest os) hxr;refine⟨by simpa using g1,?_⟩;have hget:(DT ⟨.leaf,b⟩ (.abs (.pack s) false::Eg [true] 1 os)).get b=some (.abs (.pack s) false):=by
    rw[D5];show(if b < b then _ else _)=_;rw[AAW (ABY _),ABQ];rfl
   have hlen:∀(j:Nat)(l:Ay),(Eg [true] j l).length=l.length:=by
    intro j l;induction l generalizing j with
    | nil=>rfl
    | cons o l ih=>show(Eg [true] (j+1) l).length+1=l.length+1;rw[ih]
   have hnx:(DT ⟨.leaf,b⟩ (.abs (.pack s) false::Eg [true] 1 os)).next=b+(os.length+1):=by
    rw[Kr];show b+((Eg [true] 1 os).length+1)=_;rw[hlen]
   refine AZ.Tf fun base W0 Z W hDm hH=>?_
   obtain⟨T,hT⟩:=hDm b ⟨AAT _,by simp⟩;obtain⟨objs2,hr,ho⟩:=hH.opened hget hT;obtain⟨H',N2,h1,h2,h3⟩:=g2 objs2 hr;obtain⟨μ',hH',hE,hk⟩:=ho H' (by rw[hx s];exact h1);refine⟨μ',H',N2,_,hE.le,hH',h2,fun x ⟨i,hi,e⟩=>?_,h3⟩;rw[e,<-hnx];exact hk i hi
 .cases hxr
end Go.AB
set_option linter.unusedVariables false
set_option linter.unusedSimpArgs false
namespace Go.AB
variable {P:Program}
theorem C6(w:World)(dT sT ty elem:TypeId)(k b o dLen dCap:Nat)(a:Addr)(sLen sCap m:Nat)(cs:List Value)(hu:P.underlying dT=some (.slice elem))(hs:(P.info? elem).map (·.size)=some k)(hm:m=Nat.min sLen dLen)(hn:cs.length=m * k)(hsrc:∀j v,cs[j]? = some v->w.cell? (a.add j)=some v)(hc:∀j,j < cs.length->(w.cell? ⟨b,o+j,none⟩).isSome=true)(hf:∀j,j < cs.length->w.frozen? ⟨b,o+j,none⟩=false)(h1:∀v∈cs,v.oneCell'=true):
 (Builtin.copy_ #[dT,sT] ty #[.slice (some ⟨b,o,none⟩) dLen dCap,.slice (some a) sLen sCap]).run P w= .ok (goInt m) (w.setCells b o cs):=by
 have hl:=run_loadCells_list (P:=P) w a cs hsrc;have hst:=run_storeCells_cells (P:=P) b o cs 0 w (by simpa using hc) (by simpa using hf) h1;cases hq:P.info? elem with
 | none=>simp[hq]at hs
 | some i=>
  have hi:i.size=k:=by simpa [hq] using hs
  simp[Builtin.copy_,run_underlying hu,Builtin.lenOf,Builtin.firstCells,sizeOf,typeInfo,hq,hi,<-hm,<-hn,hl,hst]
end Go.AB
set_option linter.unusedVariables false
set_option linter.unusedSimpArgs false
namespace Go.AB
open Go.Proofs Go.RowKit Go.Lib
set_option maxHeartbeats 4000000 in
set_option maxRecDepth 100000 in
theorem T5(b off n c i vb voff m vc:Nat)(cs vs:AL)(w:World)(hi:i < n)(hm:0 < m)(hroom:n+m<=c)(hc63:c<=9223372036854775807)(hvb:vb≠b)(hcl:cs.length=n * 6)(hvl:vs.length=m * 6)(hcs:∀j v,cs[j]? = some v->w.cell? ⟨b,off+j,none⟩=some v)(hsp:∀j,j < (n+m) * 6->(w.cell? ⟨b,off+j,none⟩).isSome=true)(hfz:∀j,j < (n+m) * 6->w.frozen? ⟨b,off+j,none⟩=false)(hvs:∀j v,vs[j]? = some v->w.cell? ⟨vb,voff+j,none⟩=some v)(h1c:∀v∈cs,v.oneCell'=true)(h1v:∀v∈vs,v.oneCell'=true)(tA tB:TypeId)(kA kB:Nat)(hsa:w.shape? vb=some (tA,kA))(hsb:w.shape? b=some (tB,kB))(hkB:kB≠0)(hfa:w.frozen? ⟨vb,voff,none⟩=false)(hfe:w.frozen? ⟨vb,kA,none⟩=false):
 Calls Tryz.prog 135 #[.slice (some ⟨b,off,none⟩) n c,.int .i64 i,.slice (some ⟨vb,voff,none⟩) m vc] w fun e w'=>
  e= .returned (.slice (some ⟨b,off,none⟩) (n+m) c)/\w'=(w.drew.setCells b (off+(i+m) * 6) (cs.drop (i * 6))).setCells b (off+i * 6) vs:=by
 have mixed:Tryz.prog.follows .mixedOrders=true:=by kernel_rfl
 have hz1:¬((m:Int)=0):=by omega
 have hz2:¬((i:Int)=(n:Int)):=by omega
 have hsz:(Tryz.prog.info? 70).map (·.size)=some 6:=by kernel_rfl
 have hov:∀lb cb,(callFunc 185 #[.slice (some ⟨vb,voff,none⟩) m vc,.slice (some ⟨b,off+(i+m) * 6,none⟩) lb cb]).run Tryz.prog w= .ok (.value (.bool false)) w:=fun lb cb=>by
  rw[run_callFunc_extern Tryz.func185 (by kernel_rfl) (by kernel_rfl) (by kernel_rfl) (e:=Extern.SlicesOverlaps.overlaps #[100,100] #[4]) (by kernel_rfl),
   Lib.run_overlaps_apart w 100 4 70 Tryz.underlying100 6 (fun w=>Tryz.sizeOf70 w) ⟨vb,voff,none⟩ ⟨b,off+(i+m) * 6,none⟩ m vc lb cb hvb tA tB kA kB hsa hsb hkB hfa hfe]
  rfl
 have hdl:(cs.drop (i * 6)).length=(n - i) * 6:=by rw[AAo,hcl,ADP]
 have hw1:IntKind.i64.wrap ((i:Int)+(m:Int))=(i:Int)+(m:Int):=by rw[IntKind.wrap_i64];omega
 have hb1:(0:Int)<=(i:Int)+(m:Int):=by omega
 have hin:i<=n:=by omega
 have htn:((i:Int)+(m:Int)).toNat=i+m:=by omega
 have hb2:¬(c=i+m):=by omega
 have hb3:(i:Int)<=(n:Int)+(m:Int):=by omega
 have hb4:¬(c=i):=by omega
 have hcp1:∀ty dc sc,(Builtin.copy_ #[101,101] ty #[.slice (some ⟨b,off+(i+m) * 6,none⟩) (n+m - (i+m)) dc,.slice (some ⟨b,off+i * 6,none⟩) (n+m - i) sc]).run Tryz.prog w.drew= .ok (goInt ((n - i:Nat):Int)) (w.drew.setCells b (off+(i+m) * 6) (cs.drop (i * 6))):=fun ty dc sc=>
  C6 w.drew _ _ ty 70 6 b (off+(i+m) * 6) (n+m - (i+m)) dc ⟨b,off+i * 6,none⟩ (n+m - i) sc (n - i) (cs.drop (i * 6)) Tryz.underlying101 hsz (by simp only[ACf];split<;>omega) hdl
   (fun j v hj=>by rw[Addr.add_lit,ABH];exact hcs (i * 6+j) v (by rwa [ABP]at hj))
   (fun j hj=>by rw[ABH];exact hsp _ (by omega)) (fun j hj=>by rw[ABH];exact hfz _ (by omega)) (fun v hv=>h1c v (ABl hv))
 obtain⟨W1,hW1⟩:∃W1,W1=w.drew.setCells b (off+(i+m) * 6) (cs.drop (i * 6)):=⟨_,rfl⟩
 have hsp1:∀k,k < (n+m) * 6->(W1.cell? ⟨b,off+k,none⟩).isSome=true:=fun k hk=>by
  rw[hW1];exact isSome_setCells b _ _ _ (fun j hj=>by rw[ABH];exact hsp _ (by omega)) _ (hsp k hk)
 have hcp2:∀(W:World),(∀x,W.cell? x=W1.cell? x)->(∀x,W.frozen? x=W1.frozen? x)->∀ty dc,(Builtin.copy_ #[101,100] ty #[.slice (some ⟨b,off+i * 6,none⟩) (n+m - i) dc,.slice (some ⟨vb,voff,none⟩) m vc]).run Tryz.prog W= .ok (goInt m) (W.setCells b (off+i * 6) vs):=fun W hWc hWf ty dc=>
  C6 W _ _ ty 70 6 b (off+i * 6) (n+m - i) dc ⟨vb,voff,none⟩ m vc m vs Tryz.underlying101 hsz (by simp only[ACf];split<;>omega) hvl
   (fun j v hj=>by
    rw[Addr.add_lit,hWc,hW1,World.cell?_setCells_out b _ _ _ _ (fun h _=>absurd h hvb)];exact hvs j v hj)
   (fun j hj=>by rw[hWc,ABH];exact hsp1 _ (by omega)) (fun j hj=>by rw[hWf,hW1,World.frozen?_setCells,ABH];exact hfz _ (by omega)) h1v
 rw[<-hW1]at hcp1
 go_enter Tryz.func135,Tryz.ntmps135
 go_wp2_with (simp only[hov])
 go_region_law_o (refine step_copy_runI rfl _ _ 101 101 rfl _ _ (by simp[Act.eval,Act.put]) (by simp[Act.eval,Act.put]) (hcp1 _ _ _) ?_)
 go_wp2_with (at_builtin;refine wpList_copy_runI _ rfl _ _ 101 100 rfl _ _ rfl rfl (hcp2 _ (fun _=>rfl) (fun _=>rfl) _ _) ?_)
 go_ret
 first | exact⟨rfl,rfl⟩ | exact⟨rfl,by rw[hW1]⟩
set_option maxHeartbeats 4000000 in
set_option maxRecDepth 100000 in
theorem WS(b off n c i vb voff m vc:Nat)(cs vs:AL)(w:World)(hi:i < n)(hm:0 < m)(hnc:n<=c)(hroom:c < n+m)(hbig:(2 * (n+m)+192) * 56<=281474976710656)(hcl:cs.length=n * 6)(hvl:vs.length=m * 6)(hcs:∀j v,cs[j]? = some v->w.cell? ⟨b,off+j,none⟩=some v)(hvs:∀j v,vs[j]? = some v->w.cell? ⟨vb,voff+j,none⟩=some v)(h1c:∀v∈cs,v.oneCell'=true)(h1v:∀v∈vs,v.oneCell'=true):
 Calls Tryz.prog 135 #[.slice (some ⟨b,off,none⟩) n c,.int .i64 i,.slice (some ⟨vb,voff,none⟩) m vc] w fun e w'=>
  ∃(G:Nat) (ROW:BE),n+m<=G/\ROW.size=G * 6/\ROW.toList.take (i * 6)=cs.take (i * 6)/\e= .returned (.slice (some ⟨w.heap.size,0,none⟩) (n+m) G)/\G<=9223372036854775807/\
   w'=(((w.alloc (.cells ROW 70)).drew.setCells w.heap.size (i * 6) vs).drew).setCells w.heap.size ((i+m) * 6) (cs.drop (i * 6)):=by
 have mixed:Tryz.prog.follows .mixedOrders=true:=by kernel_rfl
 obtain⟨i0,z0,hi0,hz0,hzs,hzb,hzc⟩:∃i0 z0,Tryz.prog.info? 70=some i0/\i0.zero=some z0/\i0.size=6/\i0.bytes=56/\z0.cells.size=6:=⟨Tryz.t70,Tryz.t70.zero.getD default,by kernel_rfl,by kernel_rfl,by kernel_rfl,by kernel_rfl,by kernel_rfl⟩
 have hz1:¬((m:Int)=0):=by omega
 have hz2:¬((i:Int)=(n:Int)):=by omega
 have hz3:(c:Int) < (n:Int)+(m:Int):=by omega
 have hsz:(Tryz.prog.info? 70).map (·.size)=some 6:=by rw[hi0];simp[hzs]
 have hbw:b < w.heap.size:=block_lt_of_cell (hcs 0 _ (AAU (by omega)));have hvw:vb < w.heap.size:=block_lt_of_cell (hvs 0 _ (AAU (by omega)));have hkk:(n:Int)+(m:Int) - (i:Int)=((n+m - i:Nat):Int):=by omega
 have hik:i+(n+m - i)=n+m:=by omega
 have hold:(Builtin.firstCells i0.size i (.slice (some ⟨b,off,none⟩) i c)).run Tryz.prog w.drew= .ok (cs.take (i * 6)).toArray w.drew:=by
  rw[hzs];exact run_firstCells_some w.drew 6 i ⟨b,off,none⟩ i c (cs.take (i * 6)) (by rw[AAh];omega) (fun j v hj=>by
   rw[Addr.add_lit];rw[ABO]at hj;split at hj
   .exact hcs j v hj
   .cases hj)
 have hncl:=Jl (need:=n+m) (cap:=c) hroom;have hfits:Builtin.nextslicecap (n+m) c * 56<=281474976710656:=ABs (AA9 _ hncl) hbig;have hrz:∀ty,(Builtin.append_ #[101,3] ty #[.slice (some ⟨b,off,none⟩) i c,.int .i64 ((n:Int)+(m:Int) - (i:Int))]).run Tryz.prog w=
  .ok (.slice (some ⟨w.heap.size,0,none⟩) (n+m) (grownCap w (n+m) c 70)) (w.drew.alloc (.cells ((cs.take (i * 6)).toArray++Builtin.zeroCells z0.cells (n+m - i)++Builtin.zeroCells z0.cells (grownCap w (n+m) c 70 - (n+m))) 70)):=fun ty=>by
  have h:=Lib.run_append_grow_zeros w 101 3 ty 70 i0 _ .i64 .i64 Tryz.underlying101 Tryz.underlying3 hi0 hz0 (some ⟨b,off,none⟩) i c (cs.take (i * 6)) hold (n+m - i) (by omega) (by omega) (by omega) (by omega) (by rw[hzb];omega) (by rw[hzb,hik];exact hfits);rw[hik]at h;rw[hkk];exact h
 obtain⟨G,hG⟩:∃G,G=grownCap w (n+m) c 70:=⟨_,rfl⟩
 have hGn:n+m<=G:=by rw[hG];exact grownCap_ge w _ _ _
 obtain⟨ROW,hROW⟩:∃ROW:BE,ROW=(cs.take (i * 6)).toArray++Builtin.zeroCells z0.cells (n+m - i)++Builtin.zeroCells z0.cells (G - (n+m)):=⟨_,rfl⟩
 rw[<-hG]at hrz;rw[<-hROW]at hrz;have hRl:ROW.size=G * 6:=by
  rw[hROW];simp[E3,hzc,hcl];omega
 have hRt:ROW.toList.take (i * 6)=cs.take (i * 6):=by
  rw[hROW];simp only[ABW,AA2];rw[AA0 (by simp[hcl];omega),ABi,AC0]
 obtain⟨W1,hW1⟩:∃W1,W1=w.drew.alloc (.cells ROW 70):=⟨_,rfl⟩
 rw[<-hW1]at hrz;have hN:∀j,j < (n+m) * 6->(W1.cell? ⟨w.heap.size,j,none⟩).isSome=true:=fun j hj=>by
  rw[hW1,World.cell?_alloc_at (w:=w.drew) ROW _ w.heap.size j rfl,ABA (by omega)];rfl
 have hNf:∀j,W1.frozen? ⟨w.heap.size,j,none⟩=false:=fun j=>by rw[hW1];exact World.frozen?_alloc_at (w:=w.drew) ROW _ w.heap.size j rfl
 have hOb:∀j v,w.cell? ⟨b,j,none⟩=some v->W1.cell? ⟨b,j,none⟩=some v:=fun j v h=>by rw[hW1,World.cell?_alloc_past (w:=w.drew) _ b j hbw];exact h
 have hOv:∀j v,w.cell? ⟨vb,j,none⟩=some v->W1.cell? ⟨vb,j,none⟩=some v:=fun j v h=>by rw[hW1,World.cell?_alloc_past (w:=w.drew) _ vb j hvw];exact h
 have hcpA:∀(W:World),(∀x,W.cell? x=W1.cell? x)->(∀x,W.frozen? x=W1.frozen? x)->∀ty dc,(Builtin.copy_ #[101,100] ty #[.slice (some ⟨w.heap.size,i * 6,none⟩) (n+m - i) dc,.slice (some ⟨vb,voff,none⟩) m vc]).run Tryz.prog W= .ok (goInt m) (W.setCells w.heap.size (i * 6) vs):=fun W hWc hWf ty dc=>
  C6 W _ _ ty 70 6 w.heap.size (i * 6) (n+m - i) dc ⟨vb,voff,none⟩ m vc m vs Tryz.underlying101 hsz (by simp only[ACf];split<;>omega) hvl
   (fun j v hj=>by rw[Addr.add_lit,hWc];exact hOv _ v (hvs j v hj))
   (fun j hj=>by rw[hWc];exact hN _ (by omega)) (fun j hj=>by rw[hWf];exact hNf _) h1v
 have hG63:G<=9223372036854775807:=by
  have:=grownCap_le_maxLen w (n+m) c 70 (by unfold maxLen;omega);rw[<-hG]at this;unfold maxLen at this;omega
 have hGi:¬(G=i):=by omega
 have hGim:¬(G=i+m):=by omega
 have hci:¬(c=i):=by omega
 have hbN:b≠w.heap.size:=by omega
 have hdl:(cs.drop (i * 6)).length=(n - i) * 6:=by rw[AAo,hcl,ADP]
 have hcpB:∀(W:World),(∀x,W.cell? x=(W1.setCells w.heap.size (i * 6) vs).cell? x)->(∀x,W.frozen? x=(W1.setCells w.heap.size (i * 6) vs).frozen? x)->∀ty dc sc,(Builtin.copy_ #[101,101] ty #[.slice (some ⟨w.heap.size,(i+m) * 6,none⟩) (n+m - (i+m)) dc,.slice (some ⟨b,off+i * 6,none⟩) (n - i) sc]).run Tryz.prog W= .ok (goInt ((n - i:Nat):Int)) (W.setCells w.heap.size ((i+m) * 6) (cs.drop (i * 6))):=fun W hWc hWf ty dc sc=>
  C6 W _ _ ty 70 6 w.heap.size ((i+m) * 6) (n+m - (i+m)) dc ⟨b,off+i * 6,none⟩ (n - i) sc (n - i) (cs.drop (i * 6)) Tryz.underlying101 hsz (by simp only[ACf];split<;>omega) hdl
   (fun j v hj=>by
    rw[Addr.add_lit,hWc,World.cell?_setCells_out _ _ _ _ _ (fun h _=>absurd h hbN),ABH];exact hOb _ v (hcs (i * 6+j) v (by rwa [ABP]at hj)))
   (fun j hj=>by rw[hWc];exact isSome_setCells _ _ _ _ (fun t ht=>hN _ (by omega)) _ (hN _ (by omega)))
   (fun j hj=>by rw[hWf,World.frozen?_setCells];exact hNf _) (fun v hv=>h1c v (ABl hv))
 subst hW1;have hE1:∀x,((w.alloc (.cells ROW 70)).drew).cell? x=(w.drew.alloc (.cells ROW 70)).cell? x:=fun x=>rfl
 have hE2:∀x,((w.alloc (.cells ROW 70)).drew).frozen? x=(w.drew.alloc (.cells ROW 70)).frozen? x:=fun x=>rfl
 have hF1:∀x,(((w.alloc (.cells ROW 70)).drew.setCells w.heap.size (i * 6) vs).drew).cell? x=((w.drew.alloc (.cells ROW 70)).setCells w.heap.size (i * 6) vs).cell? x:=fun x=>rfl
 have hF2:∀x,(((w.alloc (.cells ROW 70)).drew.setCells w.heap.size (i * 6) vs).drew).frozen? x=((w.drew.alloc (.cells ROW 70)).setCells w.heap.size (i * 6) vs).frozen? x:=fun x=>rfl
 have hw1:IntKind.i64.wrap ((i:Int)+(m:Int))=(i:Int)+(m:Int):=by rw[IntKind.wrap_i64];omega
 have hb1:(0:Int)<=(i:Int)+(m:Int):=by omega
 have hin:i<=n:=by omega
 have htn:((i:Int)+(m:Int)).toNat=i+m:=by omega
 have hb3:(i:Int)<=(n:Int):=by omega
 clear hkk hik hold hROW hG hncl hfits
 go_enter Tryz.func135,Tryz.ntmps135
 go_wp2_with (first
  | (at_builtin;refine Lib.wpList_append_run _ rfl _ _ _ _ rfl _ _ rfl rfl _ _ (hrz _) ?_)
  | (at_builtin;refine wpList_copy_runI _ rfl _ _ 101 100 rfl _ _ rfl rfl (hcpA _ hE1 hE2 _ _) ?_)
  | (at_builtin;refine wpList_copy_runI _ rfl _ _ 101 101 rfl _ _ rfl rfl (hcpB _ (fun _=>rfl) (fun _=>rfl) _ _ _) ?_))
 go_region_law_o (refine step_copy_runI rfl _ _ 101 101 rfl (.slice (some ⟨w.heap.size,(i+m) * 6,none⟩) (n+m - (i+m)) (G - (i+m))) (.slice (some ⟨b,off+i * 6,none⟩) (n - i) (c - i)) (by simp[Act.eval,Act.put]) (by simp[Act.eval,Act.put]) (hcpB _ hF1 hF2 3 (G - (i+m)) (c - i)) ?_)
 go_wp2
 go_ret
 exact⟨G,ROW,hGn,hRl,hRt,rfl,hG63,rfl⟩
end Go.AB
set_option linter.unusedVariables false
set_option linter.unusedSimpArgs false
namespace Go.AB
open Go.Proofs Go.RowKit Go.Lib
set_option maxHeartbeats 4000000 in
set_option maxRecDepth 100000 in
theorem UE(b off n c i vb voff m vc:Nat)(cs vs:AL)(w:World)(hi:i < n)(hm:0 < m)(hroom:n+m<=c)(hc63:c<=9223372036854775807)(hvb:vb≠b)(hcl:cs.length=n * 2)(hvl:vs.length=m * 2)(hcs:∀j v,cs[j]? = some v->w.cell? ⟨b,off+j,none⟩=some v)(hsp:∀j,j < (n+m) * 2->(w.cell? ⟨b,off+j,none⟩).isSome=true)(hfz:∀j,j < (n+m) * 2->w.frozen? ⟨b,off+j,none⟩=false)(hvs:∀j v,vs[j]? = some v->w.cell? ⟨vb,voff+j,none⟩=some v)(h1c:∀v∈cs,v.oneCell'=true)(h1v:∀v∈vs,v.oneCell'=true)(tA tB:TypeId)(kA kB:Nat)(hsa:w.shape? vb=some (tA,kA))(hsb:w.shape? b=some (tB,kB))(hkB:kB≠0)(hfa:w.frozen? ⟨vb,voff,none⟩=false)(hfe:w.frozen? ⟨vb,kA,none⟩=false):
 Calls Tryz.prog 189 #[.slice (some ⟨b,off,none⟩) n c,.int .i64 i,.slice (some ⟨vb,voff,none⟩) m vc] w fun e w'=>
  e= .returned (.slice (some ⟨b,off,none⟩) (n+m) c)/\w'=(w.drew.setCells b (off+(i+m) * 2) (cs.drop (i * 2))).setCells b (off+i * 2) vs:=by
 have mixed:Tryz.prog.follows .mixedOrders=true:=by kernel_rfl
 have hz1:¬((m:Int)=0):=by omega
 have hz2:¬((i:Int)=(n:Int)):=by omega
 have hsz:(Tryz.prog.info? 255).map (·.size)=some 2:=by kernel_rfl
 have hov:∀lb cb,(callFunc 219 #[.slice (some ⟨vb,voff,none⟩) m vc,.slice (some ⟨b,off+(i+m) * 2,none⟩) lb cb]).run Tryz.prog w= .ok (.value (.bool false)) w:=fun lb cb=>by
  rw[run_callFunc_extern Tryz.func219 (by kernel_rfl) (by kernel_rfl) (by kernel_rfl) (e:=Extern.SlicesOverlaps.overlaps #[227,227] #[4]) (by kernel_rfl),
   Lib.run_overlaps_apart w 227 4 255 Tryz.underlying227 2 (fun w=>Tryz.sizeOf255 w) ⟨vb,voff,none⟩ ⟨b,off+(i+m) * 2,none⟩ m vc lb cb hvb tA tB kA kB hsa hsb hkB hfa hfe]
  rfl
 have hdl:(cs.drop (i * 2)).length=(n - i) * 2:=by rw[AAo,hcl,ADP]
 have hw1:IntKind.i64.wrap ((i:Int)+(m:Int))=(i:Int)+(m:Int):=by rw[IntKind.wrap_i64];omega
 have hb1:(0:Int)<=(i:Int)+(m:Int):=by omega
 have hin:i<=n:=by omega
 have htn:((i:Int)+(m:Int)).toNat=i+m:=by omega
 have hb2:¬(c=i+m):=by omega
 have hb3:(i:Int)<=(n:Int)+(m:Int):=by omega
 have hb4:¬(c=i):=by omega
 have hcp1:∀ty dc sc,(Builtin.copy_ #[227,227] ty #[.slice (some ⟨b,off+(i+m) * 2,none⟩) (n+m - (i+m)) dc,.slice (some ⟨b,off+i * 2,none⟩) (n+m - i) sc]).run Tryz.prog w.drew= .ok (goInt ((n - i:Nat):Int)) (w.drew.setCells b (off+(i+m) * 2) (cs.drop (i * 2))):=fun ty dc sc=>
  C6 w.drew _ _ ty 255 2 b (off+(i+m) * 2) (n+m - (i+m)) dc ⟨b,off+i * 2,none⟩ (n+m - i) sc (n - i) (cs.drop (i * 2)) Tryz.underlying227 hsz (by simp only[ACf];split<;>omega) hdl
   (fun j v hj=>by rw[Addr.add_lit,ABH];exact hcs (i * 2+j) v (by rwa [ABP]at hj))
   (fun j hj=>by rw[ABH];exact hsp _ (by omega)) (fun j hj=>by rw[ABH];exact hfz _ (by omega)) (fun v hv=>h1c v (ABl hv))
 obtain⟨W1,hW1⟩:∃W1,W1=w.drew.setCells b (off+(i+m) * 2) (cs.drop (i * 2)):=⟨_,rfl⟩
 have hsp1:∀k,k < (n+m) * 2->(W1.cell? ⟨b,off+k,none⟩).isSome=true:=fun k hk=>by
  rw[hW1];exact isSome_setCells b _ _ _ (fun j hj=>by rw[ABH];exact hsp _ (by omega)) _ (hsp k hk)
 have hcp2:∀(W:World),(∀x,W.cell? x=W1.cell? x)->(∀x,W.frozen? x=W1.frozen? x)->∀ty dc,(Builtin.copy_ #[227,227] ty #[.slice (some ⟨b,off+i * 2,none⟩) (n+m - i) dc,.slice (some ⟨vb,voff,none⟩) m vc]).run Tryz.prog W= .ok (goInt m) (W.setCells b (off+i * 2) vs):=fun W hWc hWf ty dc=>
  C6 W _ _ ty 255 2 b (off+i * 2) (n+m - i) dc ⟨vb,voff,none⟩ m vc m vs Tryz.underlying227 hsz (by simp only[ACf];split<;>omega) hvl
   (fun j v hj=>by
    rw[Addr.add_lit,hWc,hW1,World.cell?_setCells_out b _ _ _ _ (fun h _=>absurd h hvb)];exact hvs j v hj)
   (fun j hj=>by rw[hWc,ABH];exact hsp1 _ (by omega)) (fun j hj=>by rw[hWf,hW1,World.frozen?_setCells,ABH];exact hfz _ (by omega)) h1v
 rw[<-hW1]at hcp1
 go_enter Tryz.func189,Tryz.ntmps189
 go_wp2_with (simp only[hov])
 go_region_law_o (refine step_copy_runI rfl _ _ 227 227 rfl _ _ (by simp[Act.eval,Act.put]) (by simp[Act.eval,Act.put]) (hcp1 _ _ _) ?_)
 go_wp2_with (at_builtin;refine wpList_copy_runI _ rfl _ _ 227 227 rfl _ _ rfl rfl (hcp2 _ (fun _=>rfl) (fun _=>rfl) _ _) ?_)
 go_ret
 first | exact⟨rfl,rfl⟩ | exact⟨rfl,by rw[hW1]⟩
set_option maxHeartbeats 4000000 in
set_option maxRecDepth 100000 in
theorem Wt(b off n c i vb voff m vc:Nat)(cs vs:AL)(w:World)(hi:i < n)(hm:0 < m)(hnc:n<=c)(hroom:c < n+m)(hbig:(2 * (n+m)+192) * 40<=281474976710656)(hcl:cs.length=n * 2)(hvl:vs.length=m * 2)(hcs:∀j v,cs[j]? = some v->w.cell? ⟨b,off+j,none⟩=some v)(hvs:∀j v,vs[j]? = some v->w.cell? ⟨vb,voff+j,none⟩=some v)(h1c:∀v∈cs,v.oneCell'=true)(h1v:∀v∈vs,v.oneCell'=true):
 Calls Tryz.prog 189 #[.slice (some ⟨b,off,none⟩) n c,.int .i64 i,.slice (some ⟨vb,voff,none⟩) m vc] w fun e w'=>
  ∃(G:Nat) (ROW:BE),n+m<=G/\ROW.size=G * 2/\ROW.toList.take (i * 2)=cs.take (i * 2)/\e= .returned (.slice (some ⟨w.heap.size,0,none⟩) (n+m) G)/\G<=9223372036854775807/\
   w'=(((w.alloc (.cells ROW 255)).drew.setCells w.heap.size (i * 2) vs).drew).setCells w.heap.size ((i+m) * 2) (cs.drop (i * 2)):=by
 have mixed:Tryz.prog.follows .mixedOrders=true:=by kernel_rfl
 obtain⟨i0,z0,hi0,hz0,hzs,hzb,hzc⟩:∃i0 z0,Tryz.prog.info? 255=some i0/\i0.zero=some z0/\i0.size=2/\i0.bytes=40/\z0.cells.size=2:=⟨Tryz.t255,Tryz.t255.zero.getD default,by kernel_rfl,by kernel_rfl,by kernel_rfl,by kernel_rfl,by kernel_rfl⟩
 have hz1:¬((m:Int)=0):=by omega
 have hz2:¬((i:Int)=(n:Int)):=by omega
 have hz3:(c:Int) < (n:Int)+(m:Int):=by omega
 have hsz:(Tryz.prog.info? 255).map (·.size)=some 2:=by rw[hi0];simp[hzs]
 have hbw:b < w.heap.size:=block_lt_of_cell (hcs 0 _ (AAU (by omega)));have hvw:vb < w.heap.size:=block_lt_of_cell (hvs 0 _ (AAU (by omega)));have hkk:(n:Int)+(m:Int) - (i:Int)=((n+m - i:Nat):Int):=by omega
 have hik:i+(n+m - i)=n+m:=by omega
 have hold:(Builtin.firstCells i0.size i (.slice (some ⟨b,off,none⟩) i c)).run Tryz.prog w.drew= .ok (cs.take (i * 2)).toArray w.drew:=by
  rw[hzs];exact run_firstCells_some w.drew 2 i ⟨b,off,none⟩ i c (cs.take (i * 2)) (by rw[AAh];omega) (fun j v hj=>by
   rw[Addr.add_lit];rw[ABO]at hj;split at hj
   .exact hcs j v hj
   .cases hj)
 have hncl:=Jl (need:=n+m) (cap:=c) hroom;have hfits:Builtin.nextslicecap (n+m) c * 40<=281474976710656:=ABs (AA9 _ hncl) hbig;have hrz:∀ty,(Builtin.append_ #[227,3] ty #[.slice (some ⟨b,off,none⟩) i c,.int .i64 ((n:Int)+(m:Int) - (i:Int))]).run Tryz.prog w=
  .ok (.slice (some ⟨w.heap.size,0,none⟩) (n+m) (grownCap w (n+m) c 255)) (w.drew.alloc (.cells ((cs.take (i * 2)).toArray++Builtin.zeroCells z0.cells (n+m - i)++Builtin.zeroCells z0.cells (grownCap w (n+m) c 255 - (n+m))) 255)):=fun ty=>by
  have h:=Lib.run_append_grow_zeros w 227 3 ty 255 i0 _ .i64 .i64 Tryz.underlying227 Tryz.underlying3 hi0 hz0 (some ⟨b,off,none⟩) i c (cs.take (i * 2)) hold (n+m - i) (by omega) (by omega) (by omega) (by omega) (by rw[hzb];omega) (by rw[hzb,hik];exact hfits);rw[hik]at h;rw[hkk];exact h
 obtain⟨G,hG⟩:∃G,G=grownCap w (n+m) c 255:=⟨_,rfl⟩
 have hGn:n+m<=G:=by rw[hG];exact grownCap_ge w _ _ _
 obtain⟨ROW,hROW⟩:∃ROW:BE,ROW=(cs.take (i * 2)).toArray++Builtin.zeroCells z0.cells (n+m - i)++Builtin.zeroCells z0.cells (G - (n+m)):=⟨_,rfl⟩
 rw[<-hG]at hrz;rw[<-hROW]at hrz;have hRl:ROW.size=G * 2:=by
  rw[hROW];simp[E3,hzc,hcl];omega
 have hRt:ROW.toList.take (i * 2)=cs.take (i * 2):=by
  rw[hROW];simp only[ABW,AA2];rw[AA0 (by simp[hcl];omega),ABi,AC0]
 obtain⟨W1,hW1⟩:∃W1,W1=w.drew.alloc (.cells ROW 255):=⟨_,rfl⟩
 rw[<-hW1]at hrz;have hN:∀j,j < (n+m) * 2->(W1.cell? ⟨w.heap.size,j,none⟩).isSome=true:=fun j hj=>by
  rw[hW1,World.cell?_alloc_at (w:=w.drew) ROW _ w.heap.size j rfl,ABA (by omega)];rfl
 have hNf:∀j,W1.frozen? ⟨w.heap.size,j,none⟩=false:=fun j=>by rw[hW1];exact World.frozen?_alloc_at (w:=w.drew) ROW _ w.heap.size j rfl
 have hOb:∀j v,w.cell? ⟨b,j,none⟩=some v->W1.cell? ⟨b,j,none⟩=some v:=fun j v h=>by rw[hW1,World.cell?_alloc_past (w:=w.drew) _ b j hbw];exact h
 have hOv:∀j v,w.cell? ⟨vb,j,none⟩=some v->W1.cell? ⟨vb,j,none⟩=some v:=fun j v h=>by rw[hW1,World.cell?_alloc_past (w:=w.drew) _ vb j hvw];exact h
 have hcpA:∀(W:World),(∀x,W.cell? x=W1.cell? x)->(∀x,W.frozen? x=W1.frozen? x)->∀ty dc,(Builtin.copy_ #[227,227] ty #[.slice (some ⟨w.heap.size,i * 2,none⟩) (n+m - i) dc,.slice (some ⟨vb,voff,none⟩) m vc]).run Tryz.prog W= .ok (goInt m) (W.setCells w.heap.size (i * 2) vs):=fun W hWc hWf ty dc=>
  C6 W _ _ ty 255 2 w.heap.size (i * 2) (n+m - i) dc ⟨vb,voff,none⟩ m vc m vs Tryz.underlying227 hsz (by simp only[ACf];split<;>omega) hvl
   (fun j v hj=>by rw[Addr.add_lit,hWc];exact hOv _ v (hvs j v hj))
   (fun j hj=>by rw[hWc];exact hN _ (by omega)) (fun j hj=>by rw[hWf];exact hNf _) h1v
 have hG63:G<=9223372036854775807:=by
  have:=grownCap_le_maxLen w (n+m) c 255 (by unfold maxLen;omega);rw[<-hG]at this;unfold maxLen at this;omega
 have hGi:¬(G=i):=by omega
 have hGim:¬(G=i+m):=by omega
 have hci:¬(c=i):=by omega
 have hbN:b≠w.heap.size:=by omega
 have hdl:(cs.drop (i * 2)).length=(n - i) * 2:=by rw[AAo,hcl,ADP]
 have hcpB:∀(W:World),(∀x,W.cell? x=(W1.setCells w.heap.size (i * 2) vs).cell? x)->(∀x,W.frozen? x=(W1.setCells w.heap.size (i * 2) vs).frozen? x)->∀ty dc sc,(Builtin.copy_ #[227,227] ty #[.slice (some ⟨w.heap.size,(i+m) * 2,none⟩) (n+m - (i+m)) dc,.slice (some ⟨b,off+i * 2,none⟩) (n - i) sc]).run Tryz.prog W= .ok (goInt ((n - i:Nat):Int)) (W.setCells w.heap.size ((i+m) * 2) (cs.drop (i * 2))):=fun W hWc hWf ty dc sc=>
  C6 W _ _ ty 255 2 w.heap.size ((i+m) * 2) (n+m - (i+m)) dc ⟨b,off+i * 2,none⟩ (n - i) sc (n - i) (cs.drop (i * 2)) Tryz.underlying227 hsz (by simp only[ACf];split<;>omega) hdl
   (fun j v hj=>by
    rw[Addr.add_lit,hWc,World.cell?_setCells_out _ _ _ _ _ (fun h _=>absurd h hbN),ABH];exact hOb _ v (hcs (i * 2+j) v (by rwa [ABP]at hj)))
   (fun j hj=>by rw[hWc];exact isSome_setCells _ _ _ _ (fun t ht=>hN _ (by omega)) _ (hN _ (by omega)))
   (fun j hj=>by rw[hWf,World.frozen?_setCells];exact hNf _) (fun v hv=>h1c v (ABl hv))
 subst hW1;have hE1:∀x,((w.alloc (.cells ROW 255)).drew).cell? x=(w.drew.alloc (.cells ROW 255)).cell? x:=fun x=>rfl
 have hE2:∀x,((w.alloc (.cells ROW 255)).drew).frozen? x=(w.drew.alloc (.cells ROW 255)).frozen? x:=fun x=>rfl
 have hF1:∀x,(((w.alloc (.cells ROW 255)).drew.setCells w.heap.size (i * 2) vs).drew).cell? x=((w.drew.alloc (.cells ROW 255)).setCells w.heap.size (i * 2) vs).cell? x:=fun x=>rfl
 have hF2:∀x,(((w.alloc (.cells ROW 255)).drew.setCells w.heap.size (i * 2) vs).drew).frozen? x=((w.drew.alloc (.cells ROW 255)).setCells w.heap.size (i * 2) vs).frozen? x:=fun x=>rfl
 have hw1:IntKind.i64.wrap ((i:Int)+(m:Int))=(i:Int)+(m:Int):=by rw[IntKind.wrap_i64];omega
 have hb1:(0:Int)<=(i:Int)+(m:Int):=by omega
 have hin:i<=n:=by omega
 have htn:((i:Int)+(m:Int)).toNat=i+m:=by omega
 have hb3:(i:Int)<=(n:Int):=by omega
 clear hkk hik hold hROW hG hncl hfits
 go_enter Tryz.func189,Tryz.ntmps189
 go_wp2_with (first
  | (at_builtin;refine Lib.wpList_append_run _ rfl _ _ _ _ rfl _ _ rfl rfl _ _ (hrz _) ?_)
  | (at_builtin;refine wpList_copy_runI _ rfl _ _ 227 227 rfl _ _ rfl rfl (hcpA _ hE1 hE2 _ _) ?_)
  | (at_builtin;refine wpList_copy_runI _ rfl _ _ 227 227 rfl _ _ rfl rfl (hcpB _ (fun _=>rfl) (fun _=>rfl) _ _ _) ?_))
 go_region_law_o (refine step_copy_runI rfl _ _ 227 227 rfl (.slice (some ⟨w.heap.size,(i+m) * 2,none⟩) (n+m - (i+m)) (G - (i+m))) (.slice (some ⟨b,off+i * 2,none⟩) (n - i) (c - i)) (by simp[Act.eval,Act.put]) (by simp[Act.eval,Act.put]) (hcpB _ hF1 hF2 3 (G - (i+m)) (c - i)) ?_)
 go_wp2
 go_ret
 exact⟨G,ROW,hGn,hRl,hRt,rfl,hG63,rfl⟩
end Go.AB
namespace Go.AB
open Classical in
def M8(sz bytes:Nat):DL:=fun args H=>
 match args with
 | [.slice (some ⟨b,0,some q⟩) n cap,.int .i64 x,.slice (some ⟨vb,voff,none⟩) m _]=>
  match H.get b,H.get vb with
  | some (.vec k l false),some (.cells vcs ve false)=>
   if k.length=sz/\cap=AT/\k.all SK.plain=true/\vb≠b/\m≠0/\ve≠1/\q+n<=l.length/\0<=x/\x < n/\Bn bytes (n+m)=true then
    match Rg k m ((vcs.drop voff).take (m * k.length))with
    | some new=>some (.slice (some ⟨H.next,0,some 0⟩) (n+m) AT,(H.del b).alloc (.vec k (((l.drop q).take n).take x.toNat++(new++((l.drop q).take n).drop x.toNat)) false))
    | none=>none
   else none
  | _,_=>none
 | _=>none
theorem Je{a b:Nat}(h:Nat.beq a b=false):a≠b:=by
 rintro rfl;rw[AAu]at h;cases h
theorem G0{a b:Nat}(h:a≠b):Nat.beq a b=false:=by
 cases hq:Nat.beq a b
 .rfl
 .exact absurd (AAP hq) h
section
variable {P:Program}{laid:DD}
theorem XO{f:FuncId}{sz B:Nat}{E:TypeId}(P1:∃n c,entry P f=some (n,c))(hk0:0 < sz)(hk1:sz≠1)(hS:QH P f sz)(hG:UO P f sz B E):CH P laid f (M8 sz B):=by
 refine⟨P1,?_⟩;intro base W0 Z H W args args' v H' hW h hl ha hF;unfold M8 at hF;split at hF
 .rename_i b q n cap x vb voff m vcap;split at hF
  .rename_i k l vcs ve hb hvb;split at hF
   .rename_i hc;obtain⟨rfl,rfl,hpl,hne,hm0,hve,hq,hx0,hxn,hbig⟩:=hc;split at hF
    .rename_i new hnew;obtain⟨i,rfl⟩:∃i:Nat,x=i:=⟨x.toNat,by omega⟩
     simp only[AAa,AAN,AAm]at hF;obtain⟨rfl,rfl⟩:=hF;generalize hqq:args'.toList=qq at ha;cases ha with
     | cons h1 ha=>cases ha with
      | cons h2 ha=>cases ha with
       | cons h3 ha=>
        cases ha
        rcases GY h hb h1 with⟨h1f,hnr,_⟩ | ⟨_,hn0,_⟩
        rotate_left
        .omega
        have hdv:=h.Lq hb fun T hT hv=>hnr T hT hv.2.1
        have hg:(H.put b (.cells (Ac k l) k.length false)).get b=some (.cells (Ac k l) k.length false):=by rw[AA.AQ,AAZ rfl]
        have hgv:(H.put b (.cells (Ac k l) k.length false)).get vb=some (.cells vcs ve false):=by rw[AA.AQ,AAW hne];exact hvb
        have hT:∃T,Z b=some T:=by cases h1 with | Bd _ _ _ _ _ _ T hm _ _ _=>exact⟨T,hm⟩ | Dz _ _ _ T _ hm _=>exact⟨T,hm⟩
        obtain⟨d1,d2,d3⟩:=KZ k (by omega) _ _ _ hnew;rw[ABi,AC0]at d1;have hll:((vcs.drop voff).take (m * k.length)).length=m * k.length:=by rw[<-d1,A7,d2]
        have hmk:Nat.beq (m * k.length) 0=false:=G0 (ADG hm0 (by omega));have hsrc:Ek k.length (.slice (some ⟨vb,voff,none⟩) m vcap) (H.put b (.cells (Ac k l) k.length false))=some (m,Ac k new):=by
         unfold Ek;simp only[hmk,AAR,hgv,hll,AAu,AAO,d1]
        have hold:((Ac k l).drop (q * k.length)).take (n * k.length)=Ac k ((l.drop q).take n):=by rw[E4,ET]
        have hOl:(Ac k ((l.drop q).take n)).length=n * k.length:=by rw[A7,AAh,AAo,ABX (by omega)]
        have hok:=Ub k hpl;generalize hM:(l.drop q).take n=M at hold hOl ⊢;have hres:Ac k (M.take i++(new++M.drop i))=(Ac k M).take (i * k.length)++(Ac k new++(Ac k M).drop (i * k.length)):=by rw[C5,C5,ET,E4]
        obtain⟨b5,b6⟩:=JT hbig;have hins:K2 k.length B [.slice (some ⟨b,q * k.length,none⟩) n AT,.int .i64 (Int.ofNat i),.slice (some ⟨vb,voff,none⟩) m vcap] (H.put b (.cells (Ac k l) k.length false))=
         some (.slice (some ⟨H.next,0,none⟩) (n+m) (AT+(n+m)),((H.put b (.cells (Ac k l) k.length false)).del b).alloc (.cells (Ac k (M.take i++(new++M.drop i))) k.length false)):=by
         unfold K2;have g1:Nat.ble AT AT=true:=AAS (AAT _);have g2:Nat.blt i n=true:=AAS (by omega);have g3:Nat.beq vb b=false:=G0 hne;have g4:Nat.beq m 0=false:=G0 hm0;have g5:Re ((H.put b (.cells (Ac k l) k.length false)).get vb)=true:=by
          rw[hgv];unfold Re;simp only[G0 hve,ACm]
         simp only[g1,g2,g3,g4,g5,ABv,ACm,AAO,hsrc];unfold mo;simp only[hg,hold,hOl,AAu,hok,b5,b6,ABv,AAO,hres];rfl
        have hrun:=(P7 (laid:=laid) P1 hk0 hk1 hS hG).2 base W0 Z _ W _ args' _ _ hW hdv hl (by rw[hqq];exact .cons h1f (.cons h2 (.cons h3 .nil))) hins;refine Calls.mono hrun ?_;rintro e W' ⟨v',μ',rfl,r2,r3,r4⟩;obtain⟨g1,g2⟩:=GG (by omega) (H1:=H.del b) r2 r3 (fun p _=>by
         rw[AA.BK,AA.BK,AA.AQ]
         by_cases e:p=b<;>simp[e]) rfl
        refine⟨v',μ',rfl,g1,g2,?_⟩;obtain⟨T,hT⟩:=hT;refine r4.congr (fun p hp hmp=>?_) (fun p hp hmp=>?_) rfl rfl
        .have:p≠b:=by rintro rfl;rw[hT]at hmp;cases hmp
         rw[AA.AQ,AAW this]
        .have:p≠b:=by rintro rfl;rw[hT]at hmp;cases hmp
         have hp:p < H.next:=hp;rw[AA.AN,AA.AN,AAW (by show p≠H.next;omega),AAW (by show p≠H.next;omega),AA.BK,AA.BK,AA.AQ,AAW this,AAW this,AAW this]
    .cases hF
   .cases hF
  .cases hF
 .cases hF
end
def IS(sz bytes:Nat):DL:=fun args H=>
 match args with
 | [.slice (some ⟨b,0,some q⟩) n cap,.int .i64 x,.slice (some ⟨vb,voff,none⟩) m _]=>
  match H.get b,H.get vb with
  | some (.vec k l false),some (.cells vcs ve false)=>
   if k.length=sz/\cap=AT/\vb≠b/\m≠0/\ve≠1/\q+n<=l.length/\0<=x/\x < n/\Bn bytes (n+m)=true/\(Ac k ((l.drop q).take n)).all Bc=true then
    match Rg k m ((vcs.drop voff).take (m * k.length))with
    | some new=>if (Ac k new).all Bc=true then some (.slice (some ⟨H.next,0,some 0⟩) (n+m) AT,(H.del b).alloc (.vec k (((l.drop q).take n).take x.toNat++(new++((l.drop q).take n).drop x.toNat)) false))else none
    | none=>none
   else none
  | _,_=>none
 | _=>none
def Mg(sz bytes:Nat):GN:=fun args H K=>
 match args with
 | [.slice (some ⟨b,0,some q⟩) n cap,.int .i64 x,.slice (some ⟨vb,voff,none⟩) m _]=>
  match H.get b,H.get vb with
  | some (.vec k l false),some (.cells vcs ve false)=>
   bif Nat.beq k.length sz&&Nat.beq cap AT&& !(Nat.beq vb b)&& !(Nat.beq m 0)&& !(Nat.beq ve 1)then
    match Rg k m ((vcs.drop voff).take (m * k.length))with
    | some new=>bif (Ac k new).all Bc then(q+n<=l.length/\0<=x/\x < n/\Bn bytes (n+m)=true/\(Ac k ((l.drop q).take n)).all Bc=true)/\K (.slice (some ⟨H.next,0,some 0⟩) (n+m) AT) ((H.del b).alloc (.vec k (((l.drop q).take n).take x.toNat++(new++((l.drop q).take n).drop x.toNat)) false))else False
    | none=>False
   else False
  | _,_=>False
 | _=>False
theorem Wg{X:Ctx}{f:FuncId}{sz B:Nat}(hX:X.Hp f=some (IS sz B)){args:AL}{H:AA}{K:H5}(h:Mg sz B args H K):∃v H',B3 X f args .normal H=some (v,H')/\K v H':=by
 unfold Mg at h;split at h
 .rename_i b q n cap x vb voff m vcap;split at h
  .rename_i k l vcs ve hb hvb;cases hc:(Nat.beq k.length sz&&Nat.beq cap AT&& !(Nat.beq vb b)&& !(Nat.beq m 0)&& !(Nat.beq ve 1))
   .rw[hc]at h;cases h
   .rw[hc]at h;simp only[AAO]at h;split at h
    .rename_i new hnew;cases e6:(Ac k new).all Bc
     .rw[e6]at h;exact h.elim
     rw[e6]at h;simp only[AAO]at h;obtain⟨⟨e1,e2,e3,e4,e5⟩,hK⟩:=h;refine⟨_,_,?_,hK⟩;unfold B3;simp only[hX];unfold IS;simp only[hb,hvb];simp only[AAQ,ABd]at hc;obtain⟨⟨⟨⟨c1,c2⟩,c4⟩,c5⟩,c6⟩:=hc;rw[AAZ ⟨AAP c1,AAP c2,Je c4,Je c5,Je c6,e1,e2,e3,e4,e5⟩];simp only[hnew];rw[AAZ e6]
    .cases h
  .cases h
 .cases h
section
variable {P:Program}{laid:DD}
theorem Wu{f:FuncId}{sz B:Nat}{E:TypeId}(P1:∃n c,entry P f=some (n,c))(hk0:0 < sz)(hk1:sz≠1)(hS:QH P f sz)(hG:UO P f sz B E):CH P laid f (IS sz B):=by
 refine⟨P1,?_⟩;intro base W0 Z H W args args' v H' hW h hl ha hF;unfold IS at hF;split at hF
 .rename_i b q n cap x vb voff m vcap;split at hF
  .rename_i k l vcs ve hb hvb;split at hF
   .rename_i hc;obtain⟨rfl,rfl,hne,hm0,hve,hq,hx0,hxn,hbig,hok1⟩:=hc;split at hF
    .rename_i new hnew;obtain⟨i,rfl⟩:∃i:Nat,x=i:=⟨x.toNat,by omega⟩
     split at hF
     rotate_left
     .cases hF
     rename_i hok2;simp only[AAa,AAN,AAm]at hF;obtain⟨rfl,rfl⟩:=hF;generalize hqq:args'.toList=qq at ha;cases ha with
     | cons h1 ha=>cases ha with
      | cons h2 ha=>cases ha with
       | cons h3 ha=>
        cases ha
        rcases GY h hb h1 with⟨h1f,hnr,_⟩ | ⟨_,hn0,_⟩
        rotate_left
        .omega
        have hdv:=h.Lq hb fun T hT hv=>hnr T hT hv.2.1
        have hg:(H.put b (.cells (Ac k l) k.length false)).get b=some (.cells (Ac k l) k.length false):=by rw[AA.AQ,AAZ rfl]
        have hgv:(H.put b (.cells (Ac k l) k.length false)).get vb=some (.cells vcs ve false):=by rw[AA.AQ,AAW hne];exact hvb
        have hT:∃T,Z b=some T:=by cases h1 with | Bd _ _ _ _ _ _ T hm _ _ _=>exact⟨T,hm⟩ | Dz _ _ _ T _ hm _=>exact⟨T,hm⟩
        obtain⟨d1,d2,d3⟩:=KZ k (by omega) _ _ _ hnew;rw[ABi,AC0]at d1;have hll:((vcs.drop voff).take (m * k.length)).length=m * k.length:=by rw[<-d1,A7,d2]
        have hmk:Nat.beq (m * k.length) 0=false:=G0 (ADG hm0 (by omega));have hsrc:Ek k.length (.slice (some ⟨vb,voff,none⟩) m vcap) (H.put b (.cells (Ac k l) k.length false))=some (m,Ac k new):=by
         unfold Ek;simp only[hmk,AAR,hgv,hll,AAu,AAO,d1]
        have hold:((Ac k l).drop (q * k.length)).take (n * k.length)=Ac k ((l.drop q).take n):=by rw[E4,ET]
        have hOl:(Ac k ((l.drop q).take n)).length=n * k.length:=by rw[A7,AAh,AAo,ABX (by omega)]
        generalize hM:(l.drop q).take n=M at hold hOl hok1 ⊢;have hres:Ac k (M.take i++(new++M.drop i))=(Ac k M).take (i * k.length)++(Ac k new++(Ac k M).drop (i * k.length)):=by rw[C5,C5,ET,E4]
        obtain⟨b5,b6⟩:=JT hbig;have hins:K2 k.length B [.slice (some ⟨b,q * k.length,none⟩) n AT,.int .i64 (Int.ofNat i),.slice (some ⟨vb,voff,none⟩) m vcap] (H.put b (.cells (Ac k l) k.length false))=
         some (.slice (some ⟨H.next,0,none⟩) (n+m) (AT+(n+m)),((H.put b (.cells (Ac k l) k.length false)).del b).alloc (.cells (Ac k (M.take i++(new++M.drop i))) k.length false)):=by
         unfold K2;have g1:Nat.ble AT AT=true:=AAS (AAT _);have g2:Nat.blt i n=true:=AAS (by omega);have g3:Nat.beq vb b=false:=G0 hne;have g4:Nat.beq m 0=false:=G0 hm0;have g5:Re ((H.put b (.cells (Ac k l) k.length false)).get vb)=true:=by
          rw[hgv];unfold Re;simp only[G0 hve,ACm]
         simp only[g1,g2,g3,g4,g5,ABv,ACm,AAO,hsrc];unfold mo;simp only[hg,hold,hOl,AAu,hok1,hok2,b5,b6,ABv,AAO,hres];rfl
        have hrun:=(P7 (laid:=laid) P1 hk0 hk1 hS hG).2 base W0 Z _ W _ args' _ _ hW hdv hl (by rw[hqq];exact .cons h1f (.cons h2 (.cons h3 .nil))) hins;refine Calls.mono hrun ?_;rintro e W' ⟨v',μ',rfl,r2,r3,r4⟩;obtain⟨g1,g2⟩:=GG (by omega) (H1:=H.del b) r2 r3 (fun p _=>by
         rw[AA.BK,AA.BK,AA.AQ]
         by_cases e:p=b<;>simp[e]) rfl
        refine⟨v',μ',rfl,g1,g2,?_⟩;obtain⟨T,hT⟩:=hT;refine r4.congr (fun p hp hmp=>?_) (fun p hp hmp=>?_) rfl rfl
        .have:p≠b:=by rintro rfl;rw[hT]at hmp;cases hmp
         rw[AA.AQ,AAW this]
        .have:p≠b:=by rintro rfl;rw[hT]at hmp;cases hmp
         have hp:p < H.next:=hp;rw[AA.AN,AA.AN,AAW (by show p≠H.next;omega),AAW (by show p≠H.next;omega),AA.BK,AA.BK,AA.AQ,AAW this,AAW this,AAW this]
    .cases hF
   .cases hF
  .cases hF
 .cases hF
end
end Go.AB
namespace Go.AB
open Go.Proofs
structure Mx(q:Int)(a:Ag)(d:Bool)(o z:Int):Prop where
 key:KO a=0
 q0:1<=q
 q1:q<=1099511627776
 o0:0<=o
 z0:(16+a.size:Nat)<=z
 zd:z=(16+a.size:Nat)\/d=false
 z1:z<=8192
 oz:o<=8192 - z
def y8(args:AL)(objs:Ay):GT:=match args,objs with
 | [.agg ⟨[.int .i64 q,.string a,.bool d,.int .i64 _,.int .i64 o,.int .i64 z]⟩],[]=> .ask (Mx q a d o z) (.ret ⟨.bool true,[],[]⟩)
 | _,_=> .fail
def nZ:List Gc:=[gk]
theorem q7:Ct nZ:= .other Vk aL .nil
abbrev xD:Ctx:=BY Tryz.prog AG (C8 nZ)
theorem xq(q:Int)(a:Ag)(d:Bool)(s o z:Int)(Q:Bz):Bu xD (As nZ) [] Dg [] 20 Q 300 (st Dg [Gw q a d s o z] (hp []))=(
 let c:=o<=IntKind.wrap .i64 (8192 - z);let b:Prop:=Q (.bool false) [];(bif KO a==0 then(bif decide (q>=1)then(bif decide (q<=1099511627776)then(bif decide (o>=0)then(bif decide (z>=IntKind.wrap .i64 (16+Int.ofNat a.size))then(bif z==IntKind.wrap .i64 (16+Int.ofNat a.size)then(bif decide (z<=8192)then(bif decide c then(Q (.bool true) [])else b)else b)else(bif d then b else(bif decide (z<=8192)then(bif decide c then(Q (.bool true) [])else b)else b)))else b)else b)else b)else b)else b)):=by kernel_rfl
def KR(args:AL)(objs:Ay):GT:=match args,objs with
 | [.slice (some ⟨20,0,some 0⟩) n c,.int .i64 x,.slice (some ⟨21,0,none⟩) 1 1],[.vec [.int .i64,.str,.bool,.int .i64,.int .i64,.int .i64] l _,.cells [.int .i64 q,.string a,.bool d,.int .i64 s,.int .i64 o,.int .i64 z] 6 _]=>
  .ask (n=l.length/\c=18446744073709551616/\x=n/\n < 90000) (.ret ⟨.slice (some ⟨22,0,some 0⟩) (n+1) 18446744073709551616,[none,none],[.vec Ak (l++[(q,a,d,s,o,z)]) false]⟩)
 | [.slice none 0 0,.int .i64 (.ofNat 0),.slice (some ⟨20,0,none⟩) 1 1],[.cells [.int .i64 q,.string a,.bool d,.int .i64 s,.int .i64 o,.int .i64 z] 6 _]=> .ret ⟨.slice (some ⟨21,0,some 0⟩) 1 18446744073709551616,[none],[.vec Ak [(q,a,d,s,o,z)] false]⟩
 | _,_=> .fail
def eS(q:Int)(a:Ag)(d:Bool)(s o z:Int):AL:=[int q,.string a,.bool d,int s,int o,int z]
theorem vJ(l:List (EK.C Ak))(q:Int)(a:Ag)(d:Bool)(s o z:Int)(n:Nat)(x:Int)(Q:Bz):Bu X0 Dn [] Ad [] 22 Q 300 (st Ad [Aq 20 n,int x,.slice (some ⟨21,0,none⟩) 1 1] (hp [.vec Ak l false,.cells (eS q a d s o z) 6 true]))=(
 (bif decide (0<=Int.ofNat n)&&Nat.ble (Int.ofNat n).toNat n&&decide (0<=x)&&Nat.ble x.toNat (Int.ofNat n).toNat then(bif x==Int.ofNat n then(bif true&&Nat.ble (0+n) l.length&&Bn 56 (n+1)then(Q (Aq 22 (n+1)) [some (.vec ([SK.int IntKind.i64]++([SK.str]++([SK.bool]++([SK.int IntKind.i64]++([SK.int IntKind.i64]++([SK.int IntKind.i64]++[])))))) (List.take n (List.drop 0 l)++[(q,a,d,s,o,z)]) false)])else False)else False)else False)):=by kernel_rfl
theorem uq(q:Int)(a:Ag)(d:Bool)(s o z:Int)(Q:Bz):Bu X0 Dn [] Ad [21] 21 Q 300 (st Ad [.slice none 0 0,int 0,.slice (some ⟨20,0,none⟩) 1 1] (hp [.cells (eS q a d s o z) 6 false]))=(
 let b:AJ:= .cells [(int q),(.string a),(.bool d),(int s),(int o),(int z)] 6 false;(Q (.slice (some ⟨21,0,none⟩) 1 18446744073709551617) [some b,some b])):=by kernel_rfl
theorem kY:CH Tryz.prog AG Dg (Ab AG 20 [] y8):=by
 refine Ar q7.all (by kernel_rfl) (n:=A5 Dg) (by kernel_rfl) (by kernel_rfl) fun argsc objs x hx hro=>?_
 clear hro;unfold y8 at hx;split at hx
 .rename_i q a d s o z;simp only[GT.run]at hx;split at hx
  .rename_i h;cases hx
   have ha:=(TJ h.key).2;have hv:Bu xD (As nZ) [] Dg [] 20 (fun v _=>v= .bool true) 300 (st Dg [Gw q a d s o z] (hp [])):=by
    rw[xq];(conv=>zeta)
    have e1:IntKind.wrap .i64 (16+Int.ofNat a.size)=((16+a.size:Nat):Int):=by show IntKind.wrap .i64 (16+(a.size:Int))=_;rw[wrap64 (by omega) (by omega)];omega
    have z0:=h.z0;have z1:=h.z1;have e2:IntKind.wrap .i64 (8192 - z)=8192 - z:=by rw[Rf (by omega) (by omega)]
    rw[e1,e2];refine AD (by rw[h.key];rfl) (AD (AAY h.q0) (AD (AAY h.q1) (AD (AAY h.o0) (AD (AAY h.z0) (Cz (fun _=>AD (AAY h.z1) (AD (AAY h.oz) rfl)) fun c=>?_)))));rcases h.zd with hz | hd
    .rw[hz]at c;simp at c
    .exact AK hd (AD (AAY h.z1) (AD (AAY h.oz) rfl))
   exact⟨VC (by kernel_rfl),AZ.mono (Aa.FG (Av q7.pf (by kernel_rfl) hv)) fun v H e=>by have e:v=_:=e;subst e;exact Cp rfl⟩
  .cases hx
 .cases hx
theorem UQ:CH Tryz.prog AG Ad (Ab AG 20 [true,false] KR):=by
 refine Ar (CQ.nil _ _) (by kernel_rfl) (n:=A5 Ad) (by kernel_rfl) (by kernel_rfl) fun argsc objs x hx hro=>?_
 unfold KR at hx;split at hx
 .rename_i n c x0 l ro q a d s o z ro2;simp only[GT.run]at hx;split at hx
  .rename_i hc;cases hx
   obtain⟨rfl,rfl,rfl,hb⟩:=hc;have hr0:ro=false:=hro 0 _ rfl rfl;subst hr0;refine⟨VC (by kernel_rfl),?_⟩;have hv:Bu X0 Dn [] Ad [] 22 (fun v os=>v=Aq 22 (l.length+1)/\os=[some (.vec Ak (l++[(q,a,d,s,o,z)]) false)]) 300 (st Ad [Aq 20 l.length,int l.length,.slice (some ⟨21,0,none⟩) 1 1] (hp [.vec Ak l false,.cells (eS q a d s o z) 6 true])):=by
    rw[vJ,AA5,AAc (AAT _),AAa];have e0:Int.toNat (Int.ofNat l.length)=l.length:=rfl;rw[e0];have nb:Nat.ble l.length l.length=true:=AAS (AAT _);refine AD ?_ (AD ?_ (AD ?_ ⟨rfl,rfl⟩))
    .rw[nb,AAY (show(0:Int)<=(l.length:Int) by omega),show decide (0<=Int.ofNat l.length)=true from AAY (ABe _)];rfl
    .exact ACB (l.length:Int)
    .rw[AAj,nb,bM (by omega)];rfl
   refine AZ.mono (Aa.FG (Av (By _) (by kernel_rfl) hv)) fun v H h=>?_
   obtain⟨e,hos⟩:=h;subst e;have hos:[H.get 22]=_:=hos;simp only[AAd,ABF]at hos;refine⟨[22],by simp,fun b hb=>by rw[AAg]at hb;rw[hb];exact(show 22<=22 from AAT _),rfl,rfl,fun j b o hj hp=>?_,fun j o hj hm ho=>?_⟩
   .cases j with
    | zero=>cases hj;cases hp;exact⟨_,rfl,hos⟩
    | succ j=>cases hj
   .cases j with
    | zero=>cases ho
    | succ j=>cases j<;>cases ho
  .cases hx
 .rename_i q a d s o z ro;cases hx
  have hr0:ro=false:=hro 0 _ rfl rfl;subst hr0;refine⟨VC (by kernel_rfl),?_⟩;have hv:Bu X0 Dn [] Ad [21] 21 (fun v os=>v= .slice (some ⟨21,0,none⟩) 1 18446744073709551617/\os=[some (.cells (eS q a d s o z) 6 false),some (.cells (eS q a d s o z) 6 false)]) 300 (st Ad [.slice none 0 0,int 0,.slice (some ⟨20,0,none⟩) 1 1] (hp [.cells (eS q a d s o z) 6 false])):=by
   rw[uq];exact⟨rfl,rfl⟩
  refine AZ.row (k:=Ak) (Aa.FG (Av (By _) (by kernel_rfl) hv)) fun v H h=>?_
  obtain⟨e,hos⟩:=h;subst e;have hos:[H.get 21,H.get 21]=_:=hos;simp only[AAd,ABF]at hos;refine⟨21,1,[(q,a,d,s,o,z)],by unfold AT;rfl,hos.1,[21],by simp,fun b hb=>by rw[AAg]at hb;rw[hb];exact(show 21<=21 from AAT _),rfl,by unfold AT;rfl,fun j b o hj hp=>?_,fun j o hj hm ho=>?_⟩
  .cases j with
   | zero=>cases hj;cases hp;exact⟨_,rfl,by rw[AA.AQ,AAZ rfl]⟩
   | succ j=>cases hj
  .cases j<;>cases ho
 .cases hx
def Ge(l:A6)(i:Nat)(e:HO):A6:=l.take i++(e::l.drop i)
theorem Mh{l:A6}{i:Nat}(h:i<=l.length)(e:HO):(Ge l i e).length=l.length+1:=by
 unfold Ge;simp only[AAf,AAh,AAz,AAo];omega
theorem fB{H:AA}{b vb:Nat}{l:A6}{q:Int}{a:Ag}{d:Bool}{s o z:Int}(hb:20<=b)(hv:20<=vb)(hne:b≠vb)(hl:l.length < 90000)(gb:H.get b=some (.vec Ak l false))(gv:H.get vb=some (.cells (eS q a d s o z) 6 false)):
 Ab AG 20 [true,false] KR [.slice (some ⟨b,0,some 0⟩) l.length 18446744073709551616,.int .i64 (l.length:Int),.slice (some ⟨vb,0,none⟩) 1 1] H=some (.slice (some ⟨H.next,0,some 0⟩) (l.length+1) 18446744073709551616,(H.del b).alloc (.vec Ak (l++[(q,a,d,s,o,z)]) false)):=by
 have n1:Nat.blt b 20=false:=by
  cases h:Nat.blt b 20
  .rfl
  .have:b < 20:=VC h;omega
 have n2:Nat.blt vb 20=false:=by
  cases h:Nat.blt vb 20
  .rfl
  .have:vb < 20:=VC h;omega
 have n3:Nat.beq vb b=false:=G0 (ABB hne);have n4:Nat.beq b vb=false:=G0 hne;have hr:DE H 20 200 ([Value.slice (some ⟨b,0,some 0⟩) l.length 18446744073709551616,.int .i64 (l.length:Int),.slice (some ⟨vb,0,none⟩) 1 1].flatMap (Am 4)) []=[b,vb]:=by
  show DE H 20 200 [b,vb] []=[b,vb];rw[DE,n1];simp only[List.any_nil,ACg,AAR,gb];show DE H 20 199 ([]++[vb]) ([]++[b])=_;rw[ABC,ABC,DE,n2];simp only[List.any_cons,List.any_nil,n3,ACg,AAR,gv];show DE H 20 198 ([]++[]) ([b]++[vb])=_;rfl
 unfold Ab;rw[hr];have hin:∀x,Nj AG 20 [b,vb] x=bif Nat.blt x 20 then NO AG 20 x else(bif Nat.beq x b then some 20 else bif Nat.beq x vb then some 21 else none):=fun x=>rfl
 have i1:Nj AG 20 [b,vb] b=some 20:=by rw[hin,n1,AAu];rfl
 have i2:Nj AG 20 [b,vb] vb=some 21:=by rw[hin,n2,n3,AAu];rfl
 have ha:DZ (EI (Nj AG 20 [b,vb])) [Value.slice (some ⟨b,0,some 0⟩) l.length 18446744073709551616,.int .i64 (l.length:Int),.slice (some ⟨vb,0,none⟩) 1 1]=some [.slice (some ⟨20,0,some 0⟩) l.length 18446744073709551616,.int .i64 (l.length:Int),.slice (some ⟨21,0,none⟩) 1 1]:=by
  simp only[DZ,EI,CA,Jq,i1,i2,AA8]
 have ho:Vl (Nj AG 20 [b,vb]) H [b,vb]=some [.vec Ak l false,.cells (eS q a d s o z) 6 false]:=by
  simp only[Vl,gb,gv];rfl
 have hm:I0 [true,false] H 0 [b,vb]=true:=by
  simp only[I0,gb,gv];rfl
 simp only[ha,ho,hm,AAO];have hg:(KR [.slice (some ⟨20,0,some 0⟩) l.length 18446744073709551616,.int .i64 (l.length:Int),.slice (some ⟨21,0,none⟩) 1 1] [.vec Ak l false,.cells (eS q a d s o z) 6 false]).run=some ⟨.slice (some ⟨22,0,some 0⟩) (l.length+1) 18446744073709551616,[none,none],[.vec Ak (l++[(q,a,d,s,o,z)]) false]⟩:=by
  have hp0:l.length=l.length/\(18446744073709551616:Nat)=18446744073709551616/\(l.length:Int)=(l.length:Nat)/\l.length < 90000:=⟨rfl,rfl,rfl,hl⟩;show(GT.ask (l.length=l.length/\(18446744073709551616:Nat)=18446744073709551616/\(l.length:Int)=(l.length:Nat)/\l.length < 90000) (.ret ⟨.slice (some ⟨22,0,some 0⟩) (l.length+1) 18446744073709551616,[none,none],[.vec Ak (l++[(q,a,d,s,o,z)]) false]⟩)).run=_;generalize (l.length=l.length/\(18446744073709551616:Nat)=18446744073709551616/\(l.length:Int)=(l.length:Nat)/\l.length < 90000)=p at hp0;simp only[GT.run];rw[AAZ hp0]
 rw[hg];rfl
def bw:DL:=fun args H=>match args with
 | [.slice (some ⟨b,0,some 0⟩) n 18446744073709551616,.int .i64 (.ofNat x),.slice (some ⟨vb,0,none⟩) 1 1]=>match H.get b,H.get vb with
  | some (.vec [.int .i64,.str,.bool,.int .i64,.int .i64,.int .i64] l false),some (.cells [.int .i64 q,.string a,.bool d,.int .i64 s,.int .i64 o,.int .i64 z] 6 false)=>
   bif Nat.beq n l.length&&Nat.ble x n&&Nat.blt n 90000&& !(Nat.beq b vb)&&Nat.ble 20 b&&Nat.ble 20 vb then some (.slice (some ⟨H.next,0,some 0⟩) (n+1) 18446744073709551616,(H.del b).alloc (.vec Ak (Ge l x (q,a,d,s,o,z)) false))else none
  | _,_=>none
 | [.slice none 0 0,.int .i64 0,.slice (some ⟨vb,0,none⟩) 1 1]=>Ab AG 20 [true,false] KR [.slice none 0 0,.int .i64 0,.slice (some ⟨vb,0,none⟩) 1 1] H
 | _=>none
def Zv:GN:=fun args H K=>match args with
 | [.slice (some ⟨b,0,some 0⟩) n 18446744073709551616,.int .i64 (.ofNat x),.slice (some ⟨vb,0,none⟩) 1 1]=>match H.get b,H.get vb with
  | some (.vec [.int .i64,.str,.bool,.int .i64,.int .i64,.int .i64] l false),some (.cells [.int .i64 q,.string a,.bool d,.int .i64 s,.int .i64 o,.int .i64 z] 6 false)=>
   bif !(Nat.beq b vb)&&Nat.ble 20 b&&Nat.ble 20 vb then((n=l.length/\x<=n/\n < 90000)/\K (.slice (some ⟨H.next,0,some 0⟩) (n+1) 18446744073709551616) ((H.del b).alloc (.vec Ak (Ge l x (q,a,d,s,o,z)) false)))else False
  | _,_=>False
 | [.slice none 0 0,.int .i64 0,.slice (some ⟨vb,0,none⟩) 1 1]=>De AG 20 [true,false] KR [.slice none 0 0,.int .i64 0,.slice (some ⟨vb,0,none⟩) 1 1] H K
 | _=>False
theorem U1:SR bw Zv:=fun X f hX args H K h=>by
 unfold Zv at h;split at h
 .rename_i b n x vb;split at h
  .rename_i l q a d s o z hb hv;cases hc:(!(Nat.beq b vb)&&Nat.ble 20 b&&Nat.ble 20 vb)
   .simp only[hc,AAR]at h
   .simp only[hc,AAO]at h;obtain⟨⟨rfl,hx,hl⟩,hK⟩:=h;refine⟨_,_,?_,hK⟩;simp only[AAQ]at hc;unfold B3;simp only[hX];unfold bw;simp only[hb,hv,AAu,show Nat.ble x l.length=true from AAS hx,show Nat.blt l.length 90000=true from AAS hl,hc.1.1,hc.1.2,hc.2,ABv,AAO]
  .exact h.elim
 .rename_i vb;have hctx:(⟨X.P,X.laid,fun _=>some (Ab AG 20 [true,false] KR),X.BP⟩:Ctx).Hp f=some (Ab AG 20 [true,false] KR):=rfl;obtain⟨v,H',h1,h2⟩:=Gh hctx h;refine⟨v,H',?_,h2⟩;unfold B3 at h1 ⊢;simp only[hX]at h1 ⊢;exact h1
 .exact h.elim
theorem pW:CH Tryz.prog AG Ad (M8 6 56):=XO ⟨_,_,show entry Tryz.prog Ad=some (95,BN Tryz.prog Ad []) by kernel_rfl⟩ (by decide) (by decide) T5 WS
theorem Wo:CH Tryz.prog AG Ad bw:=by
 refine⟨UQ.1,fun base W0 Z H W args args' v H' hW hH hl ha hF=>?_⟩;unfold bw at hF;split at hF
 .rename_i b n x vb;split at hF
  .rename_i l q a d s o z hb hv;cases hc:(Nat.beq n l.length&&Nat.ble x n&&Nat.blt n 90000&& !(Nat.beq b vb)&&Nat.ble 20 b&&Nat.ble 20 vb)
   .simp only[hc,AAR]at hF;cases hF
   .simp only[hc,AAO,AAN,AAm]at hF;obtain⟨rfl,rfl⟩:=hF;simp only[AAQ,ABd]at hc;obtain⟨⟨⟨⟨⟨c1,c2⟩,c3⟩,c4⟩,c5⟩,c6⟩:=hc;have c1:=AAP c1;subst c1;have c2:=VC c2;have c3:l.length < 90000:=VC c3;have c4:=Je c4;have c5:=VC c5;have c6:=VC c6
    by_cases hx:x < l.length
    .refine pW.2 base W0 Z H W _ args' _ _ hW hH hl ha ?_;unfold M8;simp only[hb,hv];have hx2:(Int.ofNat x) < (l.length:Int):=by show(x:Int) < _;omega
     rw[AAZ ⟨rfl,by unfold AT;rfl,by rfl,ABB c4,by decide,by decide,by omega,ABe _,hx2,bM (by omega)⟩];show some ((Value.slice (some ⟨H.next,0,some 0⟩) (l.length+1) AT),(H.del b).alloc (.vec Ak (((l.drop 0).take l.length).take x++([(q,a,d,s,o,z)]++((l.drop 0).take l.length).drop x)) false))=_;rw[AA5,AAc (AAT _)];unfold AT;rfl
    .obtain rfl:x=l.length:=by omega
     refine UQ.2 base W0 Z H W _ args' _ _ hW hH hl ha ?_;have:=fB (H:=H) c5 c6 c4 c3 hb hv;have e:Ge l l.length (q,a,d,s,o,z)=l++[(q,a,d,s,o,z)]:=by
      unfold Ge;rw[ABh,ADB]
     rw[e];exact this
  .cases hF
 .exact UQ.2 base W0 Z H W _ args' _ _ hW hH hl ha hF
 .cases hF
theorem cL{base:Env}{W0 W:World}{Z:AW}{H:AA}(hW:Dt (VS Tryz.prog AG) base W0)(hH:AH base W0 Z H W){fs:List (FuncId × DL)}(hfs:CQ Tryz.prog AG fs){f:FuncId}(he:entry Tryz.prog f=some (A5 f,BN Tryz.prog f [])){y c:Nat}{p1 o1 p2 o2:AJ}{Ty Tc:BQ}(hy:H.get y=some p1)(hTy:Z y=some Ty)(hc:H.get c=some p2)(hTc:Z c=some Tc)(hr1:o1.ro=true)(hn1:o1.isAbs=false)(h1:∀(ν:AW)(o':Obj),Cb Z Ty p1 o'->Cb ν Ty o1 o')(hro:o2.ro=true)(hna:o2.isAbs=false)(h2:∀(ν:AW)(o':Obj),ν 20=some Ty->Cb Z Tc p2 o'->Cb ν Tc o2 o'){argsc:AL}{args':BE}(ha:∀ν:AW,ν 20=some Ty->ν 21=some Tc->Af ν argsc args'.toList)(hn:argsc.length<=A5 f){v:Value}(hv:flat v=true)(hrun:Aa (BY Tryz.prog AG fs) 22 f (fun v' _=>v'=v) (st f argsc (hp [o1,o2]))):Calls Tryz.prog f args' W fun e W'=>∃v' μ',e= .returned v'/\AH base W0 μ' H W'/\AF μ' v v'/\Ah Z H μ' H:=by
 have hW1:Dt (BY Tryz.prog AG fs) (Gp W) W:=by
  have:=hW.carry hH;unfold Dt at this ⊢;exact this
 obtain⟨s1,s2⟩:=MG (X:=BY Tryz.prog AG fs) hW1 (none_le _) (fun _ hi=>hi) (n:=20) (MO (by kernel_rfl));have s3:AH (Gp W) W (GL (BY Tryz.prog AG fs).laid) ⟨.leaf,20⟩ W:=s1.sub (H':=⟨.leaf,20⟩) (fun b o hb=>by rw[Ex]at hb;cases hb) (by rw[F9]);obtain⟨oy,hoy,hry⟩:=hH.obj y _ hy Ty hTy;obtain⟨oc,hoc,hrc⟩:=hH.obj c _ hc Tc hTc;have all0:∀b p,(⟨.leaf,20⟩:AA).get b=some p->p.ro=true/\p.isAbs=false:=fun b p hb=>by rw[Ex]at hb;cases hb
 have s4:=s3.Jo all0 (o:=o1) (T:=Ty) hr1 hn1 hoy (h1 _ _ hry);have hle1:(GL (BY Tryz.prog AG fs).laid).le ((GL (BY Tryz.prog AG fs).laid).ext 20 Ty):=AW.CV _ (s3.fresh 20 (AAT _)).2;have all1:∀b p,((⟨.leaf,20⟩:AA).alloc o1).get b=some p->p.ro=true/\p.isAbs=false:=fun b p hb=>by
  rw[AA.AN]at hb;split at hb
  .cases hb;exact⟨hr1,hn1⟩
  .rw[Ex]at hb;cases hb
 have h20:((GL (BY Tryz.prog AG fs).laid).ext 20 Ty) 20=some Ty:=AW.AY _ _ _;have s5:=s4.Jo all1 (o:=o2) (T:=Tc) hro hna hoc (h2 _ _ h20 hrc);have hle2:((GL (BY Tryz.prog AG fs).laid).ext 20 Ty).le (((GL (BY Tryz.prog AG fs).laid).ext 20 Ty).ext 21 Tc):=AW.CV _ (s4.fresh 21 (AAT _)).2;have e:((⟨.leaf,20⟩:AA).alloc o1).alloc o2=hp [o1,o2]:=by kernel_rfl
 have s6:AH (Gp W) W (((GL (BY Tryz.prog AG fs).laid).ext 20 Ty).ext 21 Tc) (hp [o1,o2]) W:=by rw[<-e];exact s5
 have hlaid:BX (BY Tryz.prog AG fs) (((GL (BY Tryz.prog AG fs).laid).ext 20 Ty).ext 21 Tc):=(s2.mono hle1).mono hle2;refine(Jg (hfs.Hp _ _ hW1) (Gq (by kernel_rfl) rfl) he s6 hlaid (ha _ (hle2 _ _ h20) (AW.AY _ _ _)) hn hrun hv).mono ?_;rintro e W' ⟨rfl,k1,k2,k3,k4⟩;exact⟨v,Z,rfl,hH.carry k3 k4 k2 k1,D4 hv,Ah.refl _ _⟩
def OU(l:List (EK.C [.tok])):List (EK.C [.tok]):=List.map (fun _=>Bo) l
theorem TM{Z ν:AW}:∀(l:List (EK.C [.tok]))(l':AL),Af Z (Ac [.tok] l) l'->Af ν (Ac [.tok] (OU l)) l'
 | [],l',h=>by cases h;exact .nil
 | x::r,l',h=>by
  have h:Af Z (x::Ac [.tok] r) l':=h;cases h with
  | cons h1 h2=>exact .cons (.Bo _) (TM r _ h2)
theorem QO{Z ν:AW}{T:BQ}{l:List (EK.C [.tok])}{ro:Bool}{o':Obj}(h:Cb Z T (.vec [.tok] l ro) o'):Cb ν T (.vec [.tok] (OU l) true) o':=by
 cases h with
 | vec _ _ _ _ hc=>
  cases hc with
  | cells _ _ _ c t lo hi he hc hr hf=>
   refine .vec T [.tok] _ true _ (.cells T _ _ true c t lo hi he ?_ hr (fun e=>by cases e));have e:(Ac [.tok] (OU l)).length=(Ac [.tok] l).length:=by rw[A7,A7,OU,ABI]
   rw[e];exact TM l _ hc
 | D7 _ _ _ he hr hk=>exact .D7 T [.tok] true _ he hr hk
def Lm:DL:=fun args H=>match args with
 | [.pointer (some ⟨c,0,none⟩)]=>match H.get c with
  | some (.cells [.pointer (some _),.slice (some ⟨y,0,some 0⟩) n 18446744073709551616] 0 _)=>match H.get y with
   | some (.vec [.tok] _ _)=>bif Nat.blt 0 n then some (.bool true,H)else none
   | _=>none
  | _=>none
 | _=>none
def Ob:GN:=fun args H K=>match args with
 | [.pointer (some ⟨c,0,none⟩)]=>match H.get c with
  | some (.cells [.pointer (some _),.slice (some ⟨y,0,some 0⟩) n 18446744073709551616] 0 _)=>match H.get y with
   | some (.vec [.tok] _ _)=>0 < n/\K (.bool true) H
   | _=>False
  | _=>False
 | _=>False
theorem JV:SR Lm Ob:=fun X f hX args H K h=>by
 unfold Ob at h;split at h
 .rename_i c;split at h
  .rename_i a y n ro hc;split at h
   .rename_i l ro2 hy;refine⟨_,_,?_,h.2⟩;unfold B3;simp only[hX];unfold Lm;simp only[hc,hy,show Nat.blt 0 n=true from AAS h.1,AAO]
   .exact h.elim
  .exact h.elim
 .exact h.elim
theorem pI(l:List (EK.C [.tok]))(n:Nat)(Q:Bz):Bu X0 Dn [] A9 [] 22 Q 100 (st A9 [Al 21] (hp [.vec [.tok] l true,.cells [Bo,Aq 20 n] 0 true]))=bif decide (Int.ofNat n > 0)then Q (.bool true) []else Q (.bool false) []:=by kernel_rfl
theorem JH:CH Tryz.prog AG A9 Lm:=by
 refine⟨⟨_,_,show entry Tryz.prog A9=some (A5 A9,BN Tryz.prog A9 []) by kernel_rfl⟩,?_⟩;intro base W0 Z H W args args' v H' hW hH hl ha hF;unfold Lm at hF;split at hF
 .rename_i c;split at hF
  .rename_i a y n ro hc;split at hF
   .rename_i l ro2 hy;cases hb:Nat.blt 0 n
    .simp only[hb,AAR]at hF;cases hF
    .simp only[hb,AAO,AAN,AAm]at hF;obtain⟨rfl,rfl⟩:=hF;have hb:0 < n:=VC hb;generalize hqq:args'.toList=qq at ha;cases ha with
     | cons h1 ha=>
      cases ha
      obtain⟨Tc,hTc⟩:=Jr h1;have hy0:∃Ty,Z y=some Ty:=by
       obtain⟨oc,_,hrc⟩:=hH.obj c _ hc Tc hTc;cases hrc with
       | cells _ _ _ cc t lo hi he hcc hr hf=>
        have hcc:Af Z [Value.pointer (some a),Value.slice (some ⟨y,0,some 0⟩) n 18446744073709551616] (List.take 2 (List.drop Tc.d cc.toList)):=hcc;generalize List.take 2 (List.drop Tc.d cc.toList)=r at hcc;cases hcc with
        | cons g1 g2=>cases g2 with
         | cons g3 g4=>exact Hu g3
      obtain⟨Ty,hTy⟩:=hy0;refine cL hW hH (CQ.nil _ _) (by kernel_rfl) hy hTy hc hTc (o1:= .vec [.tok] (OU l) true) rfl rfl (fun ν o' ho=>QO ho) (o2:= .cells [Bo,Aq 20 n] 0 true) rfl rfl (fun ν o' e1 ho=>?_) (argsc:=[Al 21]) (fun ν e1 e2=>?_) (VC (by kernel_rfl)) rfl ?_
      .cases ho with
       | cells _ _ _ cc t lo hi he hcc hr hf=>
        refine .cells Tc _ 0 true cc t lo hi he ?_ hr (fun e=>by cases e);have hcc:Af Z [Value.pointer (some a),Value.slice (some ⟨y,0,some 0⟩) n 18446744073709551616] (List.take 2 (List.drop Tc.d cc.toList)):=hcc;show Af ν [Bo,Aq 20 n] (List.take 2 (List.drop Tc.d cc.toList));generalize List.take 2 (List.drop Tc.d cc.toList)=r at hcc;cases hcc with
        | cons g1 g2=>cases g2 with
         | cons g3 g4=>
          cases g4
          exact .cons (.Bo _) (.cons (g3.JW hTy e1) .nil)
      .rw[hqq];exact .cons (h1.Pm hTc e2) .nil
      .have hv:Bu X0 Dn [] A9 [] 22 (fun v _=>v= .bool true) 100 (st A9 [Al 21] (hp [.vec [.tok] (OU l) true,.cells [Bo,Aq 20 n] 0 true])):=by
        rw[pI];exact AD (AAY (by show(n:Int) > 0;omega)) rfl
       exact Av (By _) (by kernel_rfl) hv
   .cases hF
  .cases hF
 .cases hF
end Go.AB
namespace Go.AB
def OJ(fn depth len i:Nat)(c:BU):Bool:=match c with
 | ⟨⟨fn',_,_,.code (.seq (.region j _ _) _)::t,_,r,_,_⟩,cs,_⟩=> !r&&Nat.beq fn' fn&&Nat.beq cs.length depth&&Nat.beq t.length len&&Nat.beq j i
 | _=>false
def ZX(X:Ctx)(pf:Pf)(hs:List (Nat × Value))(f:FuncId)(ids:AP)(S:Stop)(h1:BU->Bool)(S2:Stop)(h2:BU->Bool)(ks:GJ)(Q:Bz)(R R2:Cy)(n:Nat):Cy:=
 Nat.rec (motive:=fun _=>Cy) (fun _=>False) (fun _ ih c=>match EV X f c with
  | some (v,H)=>Q v ((ids++Am 4 v).map H.get)
  | none=>bif h1 c then(match S.MP X ks c with
   | some c2=>R c2
   | none=>False)
   else bif h2 c then(match S2.MP X ks c with
    | some c2=>R2 c2
    | none=>False)
   else match Vs X c with
    | some (b,ct,cf)=>bif b then ih cf else(ih ct/\ih cf)
    | none=>Om X pf hs c ih) n
theorem Ti{X:Ctx}{pf:Pf}(hpf:Hm X pf){hs:List (Nat × Value)}{f:FuncId}{ids:AP}{M:Nat}{S S2:Stop}{h1 h2:BU->Bool}{ks:GJ}(hl:(X.laid.all fun p=>Nat.blt p.1 M)=true)(hN:M<=S.N)(hN2:M<=S2.N){Q:Bz}{R R2:Cy}{Q':H5}(hQ:∀v H,Q v ((ids++Am 4 v).map H.get)->Q' v H)(hR:∀c,R c->Aa X M f Q' c)(hR2:∀c,R2 c->Aa X M f Q' c):∀(n:Nat)(c:BU),ZX X pf hs f ids S h1 S2 h2 ks Q R R2 n c->Aa X M f Q' c:=by
 have up:∀N,M<=N->(X.laid.all fun p=>Nat.blt p.1 N)=true:=fun N hMN=>by
  rw[ACG]at hl ⊢;intro p hp;exact AAS (ABs (VC (hl p hp)) hMN)
 intro n;induction n with
 | zero=>intro c h;cases h
 | succ n ih=>
  intro c h;have h:(match EV X f c with
   | some (v,H)=>Q v ((ids++Am 4 v).map H.get)
   | none=>bif h1 c then(match S.MP X ks c with
    | some c2=>R c2
    | none=>False)
    else bif h2 c then(match S2.MP X ks c with
     | some c2=>R2 c2
     | none=>False)
    else match Vs X c with
     | some (b0,ct,cf)=>bif b0 then ZX X pf hs f ids S h1 S2 h2 ks Q R R2 n cf else(ZX X pf hs f ids S h1 S2 h2 ks Q R R2 n ct/\ZX X pf hs f ids S h1 S2 h2 ks Q R R2 n cf)
     | none=>Om X pf hs c (ZX X pf hs f ids S h1 S2 h2 ks Q R R2 n)):=h
  split at h
  .rename_i v H e;exact BA.here ⟨v,H,e,hQ v H h⟩
  .cases hs:h1 c
   .simp only[hs,AAR]at h;cases hs2:h2 c
    .simp only[hs2,AAR]at h;split at h
     .rename_i b0 ct cf hq;cases hb:b0
      .simp only[hb,AAR]at h;exact BA.bind (Reach.Td (Gj (Φ:=fun c'=>ZX X pf _ f ids S h1 S2 h2 ks Q R R2 n c') hq (fun _=>h.1) h.2)) fun c' hc=>ih c' hc
      .simp only[hb,AAO]at h;exact BA.bind (Reach.Td (Gj (Φ:=fun c'=>ZX X pf _ f ids S h1 S2 h2 ks Q R R2 n c') hq (fun e=>by rw[hb]at e;cases e) h)) fun c' hc=>ih c' hc
     .exact BA.bind (Reach.Td (KQ hpf (KJ h))) fun c' hc=>ih c' hc
    .simp only[hs2,AAO]at h;split at h
     .rename_i c2 hc;exact Mw (X:=X) (S:=S2) hN2 (up _ hN2) hc (hR2 c2 h)
     .cases h
   .simp only[hs,AAO]at h;split at h
    .rename_i c2 hc;exact Mw (X:=X) (S:=S) hN (up _ hN) hc (hR c2 h)
    .cases h
end Go.AB
namespace Go.AB
open Go.Proofs
theorem V1:CH Tryz.prog AG D0 (Ab AG 20 [] (SH Ak 56)):=Ng (by decide) (by decide) (by kernel_rfl) (by kernel_rfl) (fun l j n Q=>by kernel_rfl) (fun Q=>by kernel_rfl)
def tx(args:AL)(objs:Ay):GT:=match args,objs with
 | [.slice (some ⟨20,0,some 0⟩) n 18446744073709551616,.agg ⟨[.int .i64 q,.string _,.bool _,.int .i64 s,.int .i64 _,.int .i64 _]⟩,.func (.func f) ⟨[]⟩ ⟨[]⟩],[.vec [.int .i64,.str,.bool,.int .i64,.int .i64,.int .i64] l _]=> .ask (n=l.length/\f=CF/\l.length < 1000000) (.ret ⟨.tuple ⟨[int (Ox l.length (FK l q s):Nat),Bo]⟩,[],[]⟩)
 | _,_=> .fail
theorem pR:CH Tryz.prog AG AS (Ab AG 20 [] tx):=by
 refine Ar oT.all (by kernel_rfl) (n:=A5 AS) (by kernel_rfl) (by kernel_rfl) fun argsc objs x hx hro=>?_
 clear hro;unfold tx at hx;split at hx
 .rename_i n q a d s o z f l ro;simp only[GT.run]at hx;split at hx
  .rename_i hp0;cases hx
   obtain⟨rfl,rfl,hb⟩:=hp0;refine⟨VC (by kernel_rfl),AZ.tell (Q:=fun v _=>v=nW l.length (FK l q s) (Ox l.length (FK l q s))) (Aa.FG ?_) fun v H e=>?_⟩
   .refine DA oT.pf [] [] v8 [] (by kernel_rfl) (show 21<=21 from AAT _) (fun _ _=>False) (fun c=>c=pF l l.length q a d s o z 0 l.length) (fun v H h=>h.elim) (fun c h=>by rw[h];exact mX hb) (n:=200) (c:=st AS [Aq 20 l.length,Gw q a d s o z,.func (.func CF) ⟨[]⟩ ⟨[]⟩] (hp [.vec Ak l true])) ?_;rw[uW];exact rfl
   .subst e;refine⟨.tuple ⟨[int (Ox l.length (FK l q s):Nat),Bo]⟩,H,fun base W0 Z W v' _ hv hH=>⟨Z,AW.le_refl _,hH,?_⟩,[],AA3,fun b hb=>(by cases hb),rfl,rfl,fun j b o hj=>(by cases hj),fun j o hj hm=>(by cases hm)⟩;obtain⟨ys,rfl,h2⟩:=AF.CM.1 hv;refine AF.CM.2 ⟨ys,rfl,?_⟩;have h2:Af Z [int (Ox l.length (FK l q s):Nat),.bool (Zx l.length (FK l q s) (Ox l.length (FK l q s)))] ys.toList:=h2;show Af Z [int (Ox l.length (FK l q s):Nat),Bo] ys.toList;generalize ys.toList=yy at h2;cases h2 with
    | cons g1 g2=>cases g2 with
     | cons g3 g4=>exact .cons g1 (.cons (.Bo _) g4)
  .cases hx
 .cases hx
def ej(i:Nat)(b:Bool):List Gc:=[(A9,Lm,Ob),EX Dg [] y8,(Ap,RJ,WC i b),EX D0 [] (SH Ak 56),(Ad,bw,Zv),EX AM [] zD,EX AS [] tx]
theorem vL(i:Nat)(b:Bool):Ct (ej i b):= .other JH JV <| .cons kY (.other NY (QF i b) (.cons V1 (.other Wo U1 (.cons jS (.cons pR .nil)))))
abbrev jU:Ctx:=BY Tryz.prog AG (C8 (ej 0 true))
def ZL(ns nk:Nat)(row:List (EK.C [.tok]))(krow:B2)(LS LK:Eu)(ls:A6):Ay:=[.cells [Al 21,Aq 22 ns] 0 false,.cells [.bool true,Aq 23 nk] 0 false,.vec [.tok] row false,.vec DU krow false,.abs (.mem Ak LS) false,.abs (.mem Ak LK) false,.vec Ak ls false]
def l6(ns nk:Nat)(row:List (EK.C [.tok]))(krow:B2)(LS LK:Eu)(ls lk:A6):Ay:=[.cells [Al 21,Aq 22 ns] 0 false,.cells [.bool true,Aq 23 nk] 0 false,.vec [.tok] row false,.vec DU krow false,.abs (.mem Ak LS) false,.abs (.mem Ak LK) false,.vec Ak ls false,.vec Ak lk false]
def yL(n:Nat):Tr Value:=JS [(0,Al 20),(3,Al 31),(4,Al 32),(5,Aq 27 n),(7,Al 30)]
def lz(ns nk:Nat)(row:List (EK.C [.tok]))(krow:B2)(LS LK:Eu)(ls lk:A6)(n:Nat)(q:Int)(a:Ag)(d:Bool)(s:Nat)(o z:Int)(hv:Bool)(i:Int):BU:=
 ⟨⟨At,JS [(0,.func (.yield 29) ⟨[]⟩ ⟨[]⟩),(5,Aq 27 n),(6,int n),(7,int i)],A5 At,[.code (BN Tryz.prog At [1,0,0]),.inLoop (BN Tryz.prog At [1,0,0]),.inBlock 0],[],false,.normal,none⟩,
  [⟨EN,JS [],A5 EN,[J1 (BN Tryz.prog EN [1,0,1]) 3],[],false,.normal,none⟩,
   ⟨AE,yL n,A5 AE,[.inRangeFunc 29,.inBlock 1,.code (BN Tryz.prog AE [1,1,1,1,1])],[⟨.collected 28,⟨[]⟩⟩],false,.normal,none⟩],
  (((((hp (l6 ns nk row krow LS LK ls lk)).alloc (.deferred (some []))).alloc (.loop ⟨.ready,none,AE,yL n,A5 AE,#[43],BN Tryz.prog AE [1,1,1,1,0,1,0,0],BN Tryz.prog AE [1,1,1,1,0,1,0,1],28⟩)).alloc (.cells [.bool hv] 0 false)).alloc (.cells (eS q a d s o z) 0 false)).alloc (.cells [int 0] 0 false)⟩
def q8:Stop:=⟨At,2,2,28,[20,21,22,23,24,25,26,27],[0,5,6,7]⟩
def lr:GJ:=[(EN,[]),(AE,[0,3,4,5,7])]
def zB(ids:AP)(l:List (EK.C [.tok])):List (EK.C [.tok]):=List.map (NT (Fk 28 ids)) l
def y9(ids:AP)(l:B2):B2:=Xc (Fk 28 ids) l
theorem tI(ns nk:Nat)(row:List (EK.C [.tok]))(krow:B2)(LS LK:Eu)(ls lk:A6)(q:Int)(a:Ag)(d:Bool)(s:Nat)(o z:Int)(i0 m n:Nat)(Q:Bz)(R:Cy):Pj jU (As (ej i0 true)) [(22,Aq 26 m),(23,Aq 27 n)] AE [20,21,22,23,24,25,26,27] q8 lr Q R 600 (st AE [Al 20,Gw q a d s o z] (hp (l6 ns nk row krow LS LK ls lk)))=(
 let e:=((.bool true):Value)=(.bool true);let c:=nk=krow.length/\nk < 1000000/\B0 krow a=i0/\GK krow a=true;let b:=Ha (SK.enc SK.tok (List.getD krow (0+(i0:Int).toNat) (EK.BJ DU)).2) (Prod.snd (23,Aq 27 n));(0 < ns)/\(0 < ns)/\(bif decide ((s:Int) < Int.ofNat ns)then(Mx q a d o z)/\c/\(bif decide (0<=(i0:Int))&&Nat.blt (i0:Int).toNat nk then(bif Nat.blt (0+(i0:Int).toNat) krow.length then b/\e/\(0 < ns)/\c/\(bif decide (0<=(i0:Int))&&Nat.blt (i0:Int).toNat nk then(bif Nat.blt (0+(i0:Int).toNat) krow.length then b/\e/\(R (lz ns nk (zB [33,34,30,28,29] row) (y9 [33,34,30,28,29] krow) LS LK ls lk n q a d s o z false 0))else False)else False)else False)else False)else(Q (int 3) [some (.cells [(Al 21),(Aq 22 ns)] 0 false),some (.cells [(.bool true),(Aq 23 nk)] 0 false),some (.vec [SK.tok] row false),some (.vec DU krow false),some (.abs (CR.mem Ak LS) false),some (.abs (CR.mem Ak LK) false),some (.vec Ak ls false),some (.vec Ak lk false)]))):=by kernel_rfl
def wB(ns nk:Nat)(row:List (EK.C [.tok]))(krow:B2)(LS LK:Eu)(ls lk:A6)(m n:Nat)(q:Int)(a:Ag)(d:Bool)(s:Nat)(o z:Int)(x:Nat):BU:=
 ⟨⟨AE,JS [(0,Al 20),(3,Al 28),(4,Al 29),(5,Aq 27 n),(10,int x),(12,Aq 26 m)],A5 AE,[.code (BN Tryz.prog AE [1,1,1,1,1,1,1,1,0]),.code (BN Tryz.prog AE [1,1,1,1,1,1,1,1,1])],[⟨.collected 30,⟨[]⟩⟩],false,.normal,none⟩,[],
  (((hp (l6 ns nk row krow LS LK ls lk)).alloc (.cells (eS q a d s o z) 0 false)).alloc (.cells [int 0] 0 false)).alloc (.deferred (some []))⟩
def vQ:Stop:=⟨AE,0,0,28,[20,21,22,23,24,25,26,27],[0,3,4,5,10,12]⟩
abbrev J5(ls:A6)(o:Int):Nat:=Ox ls.length (HB ls o)
theorem qX(ns nk:Nat)(row:List (EK.C [.tok]))(krow:B2)(LS LK:Eu)(ls lk:A6)(n:Nat)(q:Int)(a:Ag)(d:Bool)(s:Nat)(o z:Int)(hv:Bool)(i:Int)(i0 m:Nat)(Q:Bz)(R R2:Cy):ZX jU (As (ej i0 true)) [(22,Aq 26 m),(23,Aq 27 n)] AE [20,21,22,23,24,25,26,27] q8 (fun c=>q8.here c) vQ (OJ AE 0 0 20) lr Q R R2 900 (lz ns nk row krow LS LK ls lk n q a d s o z hv i)=(
 let G:AJ:= .vec [SK.tok] row false;let F:AJ:= .abs (CR.mem Ak LK) false;let E:AJ:= .abs (CR.mem Ak LS) false;let D:=IntKind.wrap .i64 (i+1);let B:=EK.BJ Ak;let A:Value:= .pointer (some ⟨31,4,none⟩);let y:=zB [28,29,30,31,32] row;let x:=y9 [28,29,30,31,32] krow;let w:AJ:= .cells [(Al 21),(Aq 22 ns)] 0 false;let v:AJ:= .cells [(.bool true),(Aq 23 nk)] 0 false;let r:=Ox ls.length (HB ls o);let t:=((.bool (Zx ls.length (HB ls o) r)):Value);let k:=Ha (SK.enc SK.tok (List.getD row (0+(s:Int).toNat) (EK.BJ [SK.tok]))) (Prod.snd (22,Aq 26 m));let j:Prop:=R2 (wB ns nk (zB [31,32,28] row) (y9 [31,32,28] krow) LS LK ls lk m n q a d s o z (J5 ls o));let h:=List.getD lk (0+i.toNat) B;let g:Prop:=R (lz ns nk y x LS LK ls lk n q a d s o z true D);let f:Prop:=R (lz ns nk y x LS LK ls lk n q a d s o z false D);let e:=(r:Int);let p:=IntKind.wrap .i64 (o+z) > (List.getD ls (0+e.toNat) B).2.2.2.2.1;let l:=IntKind.wrap .i64 (e - 1);let u:=List.getD ls (0+l.toNat) B;let b:Prop:=Q (int 6) [some w,some v,some G,some (.vec DU krow false),some E,some F,some (.vec Ak ls false),some (.vec Ak lk false)];(bif decide (i < (n:Int))then(bif decide (0<=i)&&Nat.blt i.toNat n then(bif Nat.blt (0+i.toNat) lk.length then(((int o):Value)=(int o))/\((A:Value)=A)/\(bif h.1==q then(bif !(h.1==q&&(ByteArray.toList h.2.1==ByteArray.toList a&&(h.2.2.1==d&&((s:Int)==(s:Int)&&(o==o&&(h.2.2.2.2.2==z&&true))))))then(Q (int 2) [some w,some v,some G,some (.vec DU krow false),some E,some F,some (.vec Ak ls false),some (.vec Ak lk false)])else(bif hv then g else(bif h.1==q then(bif h.2.2.2.1==(s:Int)then g else f)else f)))else(bif hv then g else(bif h.1==q then(bif h.2.2.2.1==(s:Int)then g else f)else f)))else False)else False)else(bif decide (0<=(s:Int))&&Nat.blt (s:Int).toNat ns then(bif Nat.blt (0+(s:Int).toNat) row.length then k/\(m=ls.length/\133=CC/\ls.length < 1000000)/\(bif Zx ls.length (HB ls o) r then(t=(.bool true))/\(bif decide (0<=(s:Int))&&Nat.blt (s:Int).toNat ns then(bif Nat.blt (0+(s:Int).toNat) row.length then k/\(bif hv then b else b)else False)else False)else(t=(.bool false))/\(bif decide (0<=(s:Int))&&Nat.blt (s:Int).toNat ns then(bif Nat.blt (0+(s:Int).toNat) row.length then k/\(bif hv then b else(bif decide (e > 0)then(bif decide (0<=IntKind.wrap .i64 (e - 1))&&Nat.blt l.toNat m then(bif Nat.blt (0+l.toNat) ls.length then(bif decide (0<=IntKind.wrap .i64 (e - 1))&&Nat.blt l.toNat m then(bif Nat.blt (0+l.toNat) ls.length then(bif decide (IntKind.wrap .i64 (u.2.2.2.2.1+u.2.2.2.2.2) > o)then b else(bif decide (e < Int.ofNat m)then(bif decide (0<=e)&&Nat.blt e.toNat m then(bif Nat.blt (0+e.toNat) ls.length then(bif decide p then b else j)else False)else False)else j))else False)else False)else False)else False)else(bif decide (e < Int.ofNat m)then(bif decide (0<=e)&&Nat.blt e.toNat m then(bif Nat.blt (0+e.toNat) ls.length then(bif decide p then b else j)else False)else False)else j)))else False)else False))else False)else False))):=by kernel_rfl
theorem vE(ns nk:Nat)(row:List (EK.C [.tok]))(krow:B2)(LS LK:Eu)(ls lk:A6)(m n:Nat)(q:Int)(a:Ag)(d:Bool)(s:Nat)(o z:Int)(x i0:Nat)(Q:Bz):Bu jU (As (ej i0 true)) [(22,Aq 26 m),(23,Aq 27 n)] AE [20,21,22,23,24,25,32,35] 28 Q 900 (wB ns nk row krow LS LK ls lk m n q a d s o z x)=(
 let v:=FK lk q (s:Int);let u:=(q,a,d,(s:Int),o,z);let t:Value:= .pointer (some ⟨21,1,none⟩);let r:Value:= .pointer (some ⟨20,1,none⟩);let p:Value:= .pointer (some ⟨28,3,none⟩);let l:=int (s:Int);let k:=List.take n (List.drop 0 lk);let j:=Aq 35 (n+1);let i:=((.string a):Value)=(.string a);let h:=List.getD krow (0+(i0:Int).toNat) (EK.BJ DU);let g:=Ox lk.length v;let f:Value:= .agg ⟨[(int q),(.string a),(.bool d),l,(int o),(int z)]⟩;let e:=((Al 21):Value)=(Al 21);let c:Value:= .pointer (some ⟨28,1,none⟩);let b:=((Al 20):Value)=(Al 20);(m=ls.length/\x<=m/\m < 90000)/\((l:Value)=l)/\((p:Value)=p)/\(((Aq 22 ns):Value)=(Aq 22 ns))/\((r:Value)=r)/\b/\b/\(bif decide (0<=(s:Int))&&Nat.blt (s:Int).toNat ns then(bif Nat.blt (0+(s:Int).toNat) row.length then(n=lk.length/\137=CF/\lk.length < 1000000)/\(0+n<=lk.length/\Bn 56 n=true)/\((f:Value)=f)/\(((int ((g:Int))):Value)=(int ((g:Int))))/\i/\((c:Value)=c)/\e/\b/\b/\b/\(n=k.length/\Ox lk.length v<=n/\n < 90000)/\i/\((c:Value)=c)/\e/\b/\b/\b/\(nk=krow.length/\nk < 1000000/\B0 krow a=i0/\GK krow a=true)/\(bif decide (0<=(i0:Int))&&Nat.blt (i0:Int).toNat nk then(bif Nat.blt (0+(i0:Int).toNat) krow.length then(Ha (SK.enc SK.tok h.2) (Prod.snd (23,Aq 27 n)))/\((j:Value)=j)/\(((int (i0:Int)):Value)=(int (i0:Int)))/\(((Aq 23 nk):Value)=(Aq 23 nk))/\((t:Value)=t)/\e/\e/\(bif decide (0<=(i0:Int))&&Nat.blt (i0:Int).toNat nk then(bif Nat.blt (0+(i0:Int).toNat) krow.length then(Q (int 0) [some (.cells [(Al 21),(Aq 22 ns)] 0 false),some (.cells [(.bool true),(Aq 23 nk)] 0 false),some (.vec [SK.tok] (List.set row (0+(s:Int).toNat) (Aq 32 (m+1))) false),some (.vec DU (List.set krow (0+(i0:Int).toNat) (h.1,j)) false),some (.abs (CR.mem Ak LS) false),some (.abs (CR.mem Ak LK) false),some (.vec Ak (Ge ls x u) false),some (.vec Ak (Ge k g u) false)])else False)else False)else False)else False)else False)else False)):=by kernel_rfl
def SE(i:Nat):List Gc:=[(A9,Lm,Ob),EX Dg [] y8,(Ap,RJ,WC i false),EX D0 [] (SH Ak 56),(Ad,bw,Zv),EX AM [] zD]
theorem jA:SR (IS 2 40) (Mg 2 40):=fun _ _ hX _ _ _ h=>Wg hX h
theorem iG:CH Tryz.prog AG B1 (IS 2 40):=Wu ⟨_,_,show entry Tryz.prog B1=some (95,BN Tryz.prog B1 []) by kernel_rfl⟩ (by decide) (by decide) UE Wt
def SI(i:Nat):List Gc:=(B1,IS 2 40,Mg 2 40)::SE i
theorem lT(i:Nat):Ct (SE i):= .other JH JV <| .cons kY (.other NY (QF i false) (.cons V1 (.other Wo U1 (.cons jS .nil))))
theorem rX(i:Nat):Ct (SI i):= .other iG jA (lT i)
abbrev vA:Ctx:=BY Tryz.prog AG (C8 (SI 0))
abbrev cg:Ctx:=BY Tryz.prog AG (C8 (SE 0))
def gq(ns nk:Nat)(row:List (EK.C [.tok]))(krow:B2)(LS LK:Eu)(ls:A6)(m:Nat)(q:Int)(a:Ag)(d:Bool)(s:Nat)(o z:Int)(x:Nat):BU:=
 ⟨⟨AE,JS [(0,Al 20),(3,Al 27),(4,Al 28),(5,.slice none 0 0),(10,int x),(12,Aq 26 m)],A5 AE,[.code (BN Tryz.prog AE [1,1,1,1,1,1,1,1,0]),.code (BN Tryz.prog AE [1,1,1,1,1,1,1,1,1])],[⟨.collected 29,⟨[]⟩⟩],false,.normal,none⟩,[],
  (((hp (ZL ns nk row krow LS LK ls)).alloc (.cells (eS q a d s o z) 0 false)).alloc (.cells [int 0] 0 false)).alloc (.deferred (some []))⟩
def l4:Stop:=⟨AE,0,0,27,[20,21,22,23,24,25,26],[0,3,4,5,10,12]⟩
def tD(ids:AP)(l:List (EK.C [.tok])):List (EK.C [.tok]):=List.map (NT (Fk 27 ids)) l
def so(ids:AP)(l:B2):B2:=Xc (Fk 27 ids) l
theorem rL(ns nk:Nat)(row:List (EK.C [.tok]))(krow:B2)(LS LK:Eu)(ls:A6)(q:Int)(a:Ag)(d:Bool)(s:Nat)(o z:Int)(i0 m:Nat)(Q:Bz)(R:Cy):ZX vA (As (SI i0)) [(22,Aq 26 m)] AE [20,21,22,23,24,25,26] l4 (OJ AE 0 0 20) l4 (fun _=>false) lr Q R (fun _=>False) 900 (st AE [Al 20,Gw q a d s o z] (hp (ZL ns nk row krow LS LK ls)))=(
 let v:AJ:= .vec [SK.tok] row false;let u:AJ:= .abs (CR.mem Ak LK) false;let t:AJ:= .abs (CR.mem Ak LS) false;let r:AJ:= .cells [(Al 21),(Aq 22 ns)] 0 false;let p:AJ:= .cells [(.bool true),(Aq 23 nk)] 0 false;let n:=((.bool false):Value)=(.bool false);let j:=Ox ls.length (HB ls o);let k:=((.bool (Zx ls.length (HB ls o) j)):Value);let i:=nk=krow.length/\nk < 1000000/\B0 krow a=i0/\GK krow a=false;let f:=Ha (SK.enc SK.tok (List.getD row (0+(s:Int).toNat) (EK.BJ [SK.tok]))) (Prod.snd (22,Aq 26 m));let e:Prop:=R (gq ns nk (tD [27,28,32] row) (so [27,28,32] krow) LS LK ls m q a d s o z (J5 ls o));let c:=(j:Int);let h:=IntKind.wrap .i64 (o+z) > (List.getD ls (0+c.toNat) (EK.BJ Ak)).2.2.2.2.1;let g:=IntKind.wrap .i64 (c - 1);let l:=List.getD ls (0+g.toNat) (EK.BJ Ak);let b:Prop:=Q (int 6) [some r,some p,some v,some (.vec DU krow false),some t,some u,some (.vec Ak ls false)];(0 < ns)/\(0 < ns)/\(bif decide ((s:Int) < Int.ofNat ns)then(Mx q a d o z)/\i/\n/\(0 < ns)/\i/\n/\(bif decide (0<=(s:Int))&&Nat.blt (s:Int).toNat ns then(bif Nat.blt (0+(s:Int).toNat) row.length then f/\(m=ls.length/\133=CC/\ls.length < 1000000)/\(bif Zx ls.length (HB ls o) j then(k=(.bool true))/\(bif decide (0<=(s:Int))&&Nat.blt (s:Int).toNat ns then(bif Nat.blt (0+(s:Int).toNat) row.length then f/\b else False)else False)else(k=(.bool false))/\(bif decide (0<=(s:Int))&&Nat.blt (s:Int).toNat ns then(bif Nat.blt (0+(s:Int).toNat) row.length then f/\(bif decide (c > 0)then(bif decide (0<=IntKind.wrap .i64 (c - 1))&&Nat.blt g.toNat m then(bif Nat.blt (0+g.toNat) ls.length then(bif decide (0<=IntKind.wrap .i64 (c - 1))&&Nat.blt g.toNat m then(bif Nat.blt (0+g.toNat) ls.length then(bif decide (IntKind.wrap .i64 (l.2.2.2.2.1+l.2.2.2.2.2) > o)then b else(bif decide (c < Int.ofNat m)then(bif decide (0<=c)&&Nat.blt c.toNat m then(bif Nat.blt (0+c.toNat) ls.length then(bif decide h then b else e)else False)else False)else e))else False)else False)else False)else False)else(bif decide (c < Int.ofNat m)then(bif decide (0<=c)&&Nat.blt c.toNat m then(bif Nat.blt (0+c.toNat) ls.length then(bif decide h then b else e)else False)else False)else e))else False)else False))else False)else False)else(Q (int 3) [some r,some p,some v,some (.vec DU krow false),some t,some u,some (.vec Ak ls false)]))):=by kernel_rfl
theorem uI(ns nk:Nat)(row:List (EK.C [.tok]))(krow:B2)(LS LK:Eu)(ls:A6)(q:Int)(a:Ag)(d:Bool)(s:Nat)(o z:Int)(i0 m:Nat)(Q:Bz)(R:Cy):ZX cg (As (SE i0)) [(22,Aq 26 m)] AE [20,21,22,23,24,25,26] l4 (OJ AE 0 0 20) l4 (fun _=>false) lr Q R (fun _=>False) 900 (st AE [Al 20,Gw q a d s o z] (hp (ZL ns nk row krow LS LK ls)))=(
 let v:AJ:= .vec [SK.tok] row false;let u:AJ:= .abs (CR.mem Ak LK) false;let t:AJ:= .abs (CR.mem Ak LS) false;let r:AJ:= .cells [(Al 21),(Aq 22 ns)] 0 false;let p:AJ:= .cells [(.bool true),(Aq 23 nk)] 0 false;let n:=((.bool false):Value)=(.bool false);let j:=Ox ls.length (HB ls o);let k:=((.bool (Zx ls.length (HB ls o) j)):Value);let i:=nk=krow.length/\nk < 1000000/\B0 krow a=i0/\GK krow a=false;let f:=Ha (SK.enc SK.tok (List.getD row (0+(s:Int).toNat) (EK.BJ [SK.tok]))) (Prod.snd (22,Aq 26 m));let e:Prop:=R (gq ns nk (tD [27,28,32] row) (so [27,28,32] krow) LS LK ls m q a d s o z (J5 ls o));let c:=(j:Int);let h:=IntKind.wrap .i64 (o+z) > (List.getD ls (0+c.toNat) (EK.BJ Ak)).2.2.2.2.1;let g:=IntKind.wrap .i64 (c - 1);let l:=List.getD ls (0+g.toNat) (EK.BJ Ak);let b:Prop:=Q (int 6) [some r,some p,some v,some (.vec DU krow false),some t,some u,some (.vec Ak ls false)];(0 < ns)/\(0 < ns)/\(bif decide ((s:Int) < Int.ofNat ns)then(Mx q a d o z)/\i/\n/\(0 < ns)/\i/\n/\(bif decide (0<=(s:Int))&&Nat.blt (s:Int).toNat ns then(bif Nat.blt (0+(s:Int).toNat) row.length then f/\(m=ls.length/\133=CC/\ls.length < 1000000)/\(bif Zx ls.length (HB ls o) j then(k=(.bool true))/\(bif decide (0<=(s:Int))&&Nat.blt (s:Int).toNat ns then(bif Nat.blt (0+(s:Int).toNat) row.length then f/\b else False)else False)else(k=(.bool false))/\(bif decide (0<=(s:Int))&&Nat.blt (s:Int).toNat ns then(bif Nat.blt (0+(s:Int).toNat) row.length then f/\(bif decide (c > 0)then(bif decide (0<=IntKind.wrap .i64 (c - 1))&&Nat.blt g.toNat m then(bif Nat.blt (0+g.toNat) ls.length then(bif decide (0<=IntKind.wrap .i64 (c - 1))&&Nat.blt g.toNat m then(bif Nat.blt (0+g.toNat) ls.length then(bif decide (IntKind.wrap .i64 (l.2.2.2.2.1+l.2.2.2.2.2) > o)then b else(bif decide (c < Int.ofNat m)then(bif decide (0<=c)&&Nat.blt c.toNat m then(bif Nat.blt (0+c.toNat) ls.length then(bif decide h then b else e)else False)else False)else e))else False)else False)else False)else False)else(bif decide (c < Int.ofNat m)then(bif decide (0<=c)&&Nat.blt c.toNat m then(bif Nat.blt (0+c.toNat) ls.length then(bif decide h then b else e)else False)else False)else e))else False)else False))else False)else False)else(Q (int 3) [some r,some p,some v,some (.vec DU krow false),some t,some u,some (.vec Ak ls false)]))):=by kernel_rfl
theorem sJ(ns nk:Nat)(row:List (EK.C [.tok]))(krow:B2)(LS LK:Eu)(ls:A6)(m:Nat)(q:Int)(a:Ag)(d:Bool)(s:Nat)(o z:Int)(x i0:Nat)(Q:Bz):Bu vA (As (SI i0)) [(22,Aq 26 m)] AE [20,21,22,23,24,25,31,36,34] 27 Q 900 (gq ns nk row krow LS LK ls m q a d s o z x)=(
 let n:=(q,a,d,(s:Int),o,z);let l:=((int 0):Value)=(int 0);let k:Value:= .pointer (some ⟨20,1,none⟩);let j:Value:= .pointer (some ⟨27,3,none⟩);let i:=int (s:Int);let h:=((Al 21):Value)=(Al 21);let g:=((.string a):Value)=(.string a);let f:=List.take nk (List.drop 0 krow);let e:Value:= .agg ⟨[(int q),(.string a),(.bool d),i,(int o),(int z)]⟩;let c:Value:= .pointer (some ⟨27,1,none⟩);let b:=((Al 20):Value)=(Al 20);(m=ls.length/\x<=m/\m < 90000)/\((i:Value)=i)/\((j:Value)=j)/\(((Aq 22 ns):Value)=(Aq 22 ns))/\((k:Value)=k)/\b/\b/\(bif decide (0<=(s:Int))&&Nat.blt (s:Int).toNat ns then(bif Nat.blt (0+(s:Int).toNat) row.length then l/\(((.bool false):Value)=(.bool false))/\((e:Value)=e)/\l/\g/\((c:Value)=c)/\h/\b/\b/\b/\g/\((c:Value)=c)/\h/\b/\b/\b/\(nk=krow.length/\nk < 1000000/\B0 krow a=i0/\GK krow a=false)/\(0+nk<=krow.length/\0<=(i0:Int)/\(i0:Int) < (nk:Int)/\Bn 40 (nk+1)=true/\List.all (Ac DU f) Bc=true)/\(Q (int 0) [some (.cells [(Al 21),(Aq 22 ns)] 0 false),some (.cells [(.bool true),(Aq 36 (nk+1))] 0 false),some (.vec [SK.tok] (List.set row (0+(s:Int).toNat) (Aq 31 (m+1))) false),none,some (.abs (CR.mem Ak LS) false),some (.abs (CR.mem Ak LK) false),some (.vec Ak (Ge ls x n) false),some (.vec DU ((List.take (i0:Int).toNat f)++([(a,(Aq 34 1))]++(List.drop (i0:Int).toNat f))) false),some (.vec ([SK.int IntKind.i64,SK.str,SK.bool,SK.int IntKind.i64,SK.int IntKind.i64,SK.int IntKind.i64]) ([n]) false)])else False)else False)):=by kernel_rfl
theorem vr(ns nk:Nat)(row:List (EK.C [.tok]))(krow:B2)(LS LK:Eu)(ls:A6)(m:Nat)(q:Int)(a:Ag)(d:Bool)(s:Nat)(o z:Int)(x i0:Nat)(Q:Bz):Bu cg (As (SE i0)) [(22,Aq 26 m)] AE [20,21,22,23,24,25,31,36,34] 27 Q 900 (gq ns nk row krow LS LK ls m q a d s o z x)=(
 let l:=(q,a,d,(s:Int),o,z);let k:=((int 0):Value)=(int 0);let j:Value:= .pointer (some ⟨20,1,none⟩);let i:Value:= .pointer (some ⟨27,3,none⟩);let h:=int (s:Int);let g:=((Al 21):Value)=(Al 21);let f:=((.string a):Value)=(.string a);let e:Value:= .agg ⟨[(int q),(.string a),(.bool d),h,(int o),(int z)]⟩;let c:Value:= .pointer (some ⟨27,1,none⟩);let b:=((Al 20):Value)=(Al 20);(m=ls.length/\x<=m/\m < 90000)/\((h:Value)=h)/\((i:Value)=i)/\(((Aq 22 ns):Value)=(Aq 22 ns))/\((j:Value)=j)/\b/\b/\(bif decide (0<=(s:Int))&&Nat.blt (s:Int).toNat ns then(bif Nat.blt (0+(s:Int).toNat) row.length then k/\(((.bool false):Value)=(.bool false))/\((e:Value)=e)/\k/\f/\((c:Value)=c)/\g/\b/\b/\b/\f/\((c:Value)=c)/\g/\b/\b/\b/\(nk=krow.length/\nk < 1000000/\B0 krow a=i0/\GK krow a=false)/\(bif decide (0<=Int.ofNat nk)&&Nat.ble (Int.ofNat nk).toNat nk&&decide (0<=(i0:Int))&&Nat.ble (i0:Int).toNat (Int.ofNat nk).toNat then(bif (i0:Int)==Int.ofNat nk then(bif true&&Nat.ble (0+nk) krow.length&&Bn 40 (nk+1)then(Q (int 0) [some (.cells [(Al 21),(Aq 22 ns)] 0 false),some (.cells [(.bool true),(Aq 36 (nk+1))] 0 false),some (.vec [SK.tok] (List.set row (0+(s:Int).toNat) (Aq 31 (m+1))) false),none,some (.abs (CR.mem Ak LS) false),some (.abs (CR.mem Ak LK) false),some (.vec Ak (Ge ls x l) false),some (.vec ([SK.str,SK.tok]) ((List.take nk (List.drop 0 krow))++[(a,(Aq 34 1))]) false),some (.vec ([SK.int IntKind.i64,SK.str,SK.bool,SK.int IntKind.i64,SK.int IntKind.i64,SK.int IntKind.i64]) ([l]) false)])else False)else False)else False)else False)else False)):=by kernel_rfl
end Go.AB
namespace Go.AB
theorem Af.VH{Z ν:AW}:∀(x x' l:AL),x'.length=x.length->(∀(i:Nat) v v',x[i]? = some v->x'[i]? = some v'->∀w,AF Z v w->AF ν v' w)->Af Z x l->Af ν x' l
 | [],[],_,_,_,h=>by cases h;exact .nil
 | [],_::_,_,hl,_,_=>by cases hl
 | _::_,[],_,hl,_,_=>by cases hl
 | _::x,_::x',_,hl,hv,h=>by
  cases h with
  | cons h1 h2=>exact .cons (hv 0 _ _ rfl rfl _ h1) (Af.VH x x' _ (by simpa using hl) (fun i v v' e e'=>hv (i+1) v v' (by simpa using e) (by simpa using e')) h2)
theorem Af.aj{Z ν:AW}:∀(x x':List (EK.C [.str,.tok]))(l:AL),x'.length=x.length->(∀(i:Nat)(p p':EK.C [.str,.tok]),x[i]? = some p->x'[i]? = some p'->p'.1=p.1/\∀w,AF Z p.2 w->AF ν p'.2 w)->Af Z (Ac [.str,.tok] x) l->Af ν (Ac [.str,.tok] x') l
 | [],[],_,_,_,h=>by cases h;exact .nil
 | [],_::_,_,hl,_,_=>by cases hl
 | _::_,[],_,hl,_,_=>by cases hl
 | a::x,a'::x',l,hl,hv,h=>by
  have h:Af Z (Value.string a.1::a.2::Ac [.str,.tok] x) l:=h;obtain⟨e1,e2⟩:=hv 0 a a' rfl rfl;show Af ν (Value.string a'.1::a'.2::Ac [.str,.tok] x') l;cases h with
  | cons h1 h2=>cases h2 with
   | cons h3 h4=>
    cases h1
    rw[e1];exact .cons (.string _) (.cons (e2 _ h3) (Af.aj x x' _ (by simpa using hl) (fun i v v' e e'=>hv (i+1) v v' (by simpa using e) (by simpa using e')) h4))
section
variable {base:Env}{W0:World}{Z:AW}{H:AA}{W:World}
theorem AH.lC(h:AH base W0 Z H W){a z j:Nat}{k:EK}(hk:k.all F8=true){L:List (Option (List (EK.C k)))}{C:List (List (EK.C k))}{l:List (EK.C k)}{T M:BQ}(ha:H.get a=some (.abs (.mem k L) false))(hm:Z a=some T)(hz:H.get z=some (.vec k l false))(hzm:Z z=some M)(hj:C[j]? = some l)(σ:Nat->Nat)(hsel:∀(i:Nat)(m:List (EK.C k)),i≠j->C[i]? = some m->L[σ i]? = some (some m))(hσ:∀(i i':Nat),i≠j->i'≠j->i < C.length->i' < C.length->σ i=σ i'->i=i'):
 ∃T2:BQ,AH base W0 (Z.ext H.next T2) ((((H.del a).alloc (.abs (.mem k ((C.map some).set j none)) false)).del z).put H.next (.abs (.mem k (C.map some)) false)) W/\
  (∀(i:Nat)(n c:Nat)(w:Value),i≠j->i < C.length->AF (Z.ext H.next T2) (.slice (some ⟨a,1,some (σ i)⟩) n c) w->AF (Z.ext H.next T2) (.slice (some ⟨H.next,1,some i⟩) n c) w)/\
  (∀(n c:Nat)(w:Value),AF (Z.ext H.next T2) (.slice (some ⟨z,0,some 0⟩) n c) w->AF (Z.ext H.next T2) (.slice (some ⟨H.next,1,some j⟩) n c) w):=by
 obtain⟨φ,q⟩:=h.abs;obtain⟨⟨ts,hR⟩,_⟩:=q.rep a _ false T ha hm;have hjl:j < C.length:=(List.getElem?_eq_some_iff.1 hj).1;have hts:∀i,i≠j->i < C.length->∃N,ts[σ i]? = some N:=fun i hi hil=>by
  have:=hsel i _ hi (AAU hil);have hlt:=(List.getElem?_eq_some_iff.1 this).1;exact⟨_,AAU (by rw[hR.len];exact hlt)⟩
 let ts2:List BQ:=(List.range C.length).map fun i=>if i=j then M else(ts[σ i]?).getD M
 have hlen2:ts2.length=((C.map some).set j none).length:=by simp[ts2]
 have g2:∀i,i < C.length->ts2[i]? = some (if i=j then M else(ts[σ i]?).getD M):=fun i hi=>by
  show((List.range C.length).map _)[i]? = _;rw[AAi,ACS hi];rfl
 have gj:ts2[j]? = some M:=by rw[g2 j hjl,AAZ rfl]
 have go:∀i N,i≠j->i < C.length->ts[σ i]? = some N->ts2[i]? = some N:=fun i N hi hil hN=>by rw[g2 i hil,AAW hi,hN];rfl
 have hset:∀(i:Nat)(m:List (EK.C k)),((C.map some).set j none)[i]? = some (some m)->i≠j/\C[i]? = some m:=by
  intro i m hi;rw[AAe]at hi
  by_cases e:j=i
  .rw[AAZ e]at hi;split at hi<;>cases hi
  .rw[AAW e,AAi]at hi;refine⟨fun h=>e h.symm,?_⟩;cases hc:C[i]? with
   | none=>rw[hc]at hi;cases hi
   | some x=>rw[hc]at hi;cases hi;rfl
 obtain⟨T2,hT2,h2⟩:=h.fL (z:=z) (j:=j) hk (L2:=(C.map some).set j none) (l:=l) (M:=M) (ts:=ts) (ts2:=ts2) ha hm hR.code hz hzm hlen2 (by rw[AAe,AAZ rfl,AAZ (by simpa using hjl)]) gj σ (fun i N m e1 e2=>by
  obtain⟨hi,hc⟩:=hset i m e2;have hil:=(List.getElem?_eq_some_iff.1 hc).1;obtain⟨N',hN'⟩:=hts i hi hil;rw[go i N' hi hil hN']at e1;cases e1
  exact⟨hN',hsel i m hi hc⟩) (fun i i' m m' e1 e2 e3=>by
  obtain⟨hi,hc⟩:=hset i m e1;obtain⟨hi',hc'⟩:=hset i' m' e2;exact hσ i i' hi hi' (List.getElem?_eq_some_iff.1 hc).1 (List.getElem?_eq_some_iff.1 hc').1 e3)
 have hfull:((C.map some).set j none).set j (some l)=C.map some:=by
  rw[ACK];have:(C.map some)[j]? = some (some l):=by rw[AAi,hj];rfl
  obtain⟨q1,q2⟩:=List.getElem?_eq_some_iff.1 this;rw[<-q2,AB1]
 rw[hfull]at h2;have hal:=h.lt ha;have hzl:=h.lt hz;refine⟨T2,h2,fun i n c w hi hil hv=>?_,fun n c w hv=>?_⟩
 .refine AF.tW (T:=T) (T2:=T2) (by rw[AW.BB _ _ (by omega)];exact hm) (AW.AY _ _ _) (fun N hN=>?_) hv;rw[hR.code,FQ]at hN;rw[hT2,FQ];exact go i N hi hil hN
 .exact AF.yg (M:=M) (T:=T2) (by rw[AW.BB _ _ (by omega)];exact hzm) (AW.AY _ _ _) (by rw[hT2,FQ];exact gj) hv
theorem AH.bQ(h:AH base W0 Z H W){a j:Nat}{k:EK}{L:List (Option (List (EK.C k)))}{l:List (EK.C k)}{T:BQ}(ha:H.get a=some (.abs (.mem k L) false))(hm:Z a=some T)(hj:L[j]? = some (some l)):
 ∃M,AH base W0 (Z.ext H.next M) (H.UZ a j k L l) W/\∀(n c:Nat)(w:Value),AF (Z.ext H.next M) (.slice (some ⟨a,1,some j⟩) n c) w->AF (Z.ext H.next M) (.slice (some ⟨H.next,0,some 0⟩) n c) w:=by
 obtain⟨ts,M,h1,h2,h3⟩:=h.UZ ha hm hj;have hal:=h.lt ha;refine⟨M,h3,fun n c w hv=>AF.xG (T:=T) (M:=M) (by rw[AW.BB _ _ (by omega)];exact hm) (by rw[h1,FQ];exact h2) (AW.AY _ _ _) hv⟩
end
end Go.AB
namespace Go.AB
open Go.Proofs
theorem Co(a:Nat)(S:List (A6)):(DM a S).length=S.length:=by unfold DM;simp
theorem JB(a i:Nat)(S:List (A6)):(DM a S)[i]? = (S[i]?).map fun l=>Value.slice (some ⟨a,1,some i⟩) l.length cU:=by
 unfold DM;rw[AAi,ADQ];cases S[i]? with
 | none=>rfl
 | some l=>simp
theorem Cm(a:Nat)(K:List (Ag × A6)):(CS a K).length=K.length:=by unfold CS;simp
theorem GP(a i:Nat)(K:List (Ag × A6)):(CS a K)[i]? = (K[i]?).map fun p=>(p.1,Value.slice (some ⟨a,1,some i⟩) p.2.length cU):=by
 unfold CS;rw[AAi,ADQ];cases K[i]? with
 | none=>rfl
 | some l=>simp
theorem bD{ρ:Ren}{a b:Nat}(h:ρ a=some b)(i n:Nat):EI ρ (.slice (some ⟨a,1,some i⟩) n cU)=some (.slice (some ⟨b,1,some i⟩) n cU):=by
 show(Jq ρ ⟨a,_,_⟩).map (fun a=>Value.slice (some a) n cU)=_;simp only[Jq,h];rfl
theorem LP{ρ:Ren}{a b:Nat}(h:ρ a=some b)(S:List (A6))(ro:Bool):BF ρ (.vec [.tok] (DM a S) ro)=some (.vec [.tok] (DM b S) ro):=by
 have key:∀l:List (A6 × Nat),DZ (EI ρ) (l.map fun p=>Value.slice (some ⟨a,1,some p.2⟩) p.1.length cU)=some (l.map fun p=>Value.slice (some ⟨b,1,some p.2⟩) p.1.length cU):=by
  intro l;induction l with
  | nil=>rfl
  | cons j l ih=>simp only[AAn,DZ,ih];rw[bD h]
 show(DZ (EI ρ) (DM a S)).map _=_;unfold DM;rw[key];rfl
theorem LF{ρ:Ren}{a b:Nat}(h:ρ a=some b)(K:List (Ag × A6))(ro:Bool):BF ρ (.vec [.str,.tok] (CS a K) ro)=some (.vec [.str,.tok] (CS b K) ro):=by
 have key:∀l:List ((Ag × A6) × Nat),IH (EI ρ) (l.map fun p=>(p.1.1,Value.slice (some ⟨a,1,some p.2⟩) p.1.2.length cU))=some (l.map fun p=>(p.1.1,Value.slice (some ⟨b,1,some p.2⟩) p.1.2.length cU)):=by
  intro l;induction l with
  | nil=>rfl
  | cons j l ih=>simp only[AAn,IH,ih];rw[bD h]
 show(IH (EI ρ) (CS a K)).map _=_;unfold CS;rw[key];rfl
def C7(K:List (Ag × A6)):Eu:=K.map fun p=>some p.2
def UB(x:B6):Ay:=[.cells [Al 21,Aq 22 x.AO.length] 0 false,.cells [.bool true,Aq 23 x.keys.length] 0 false,.vec [.tok] (DM 24 x.AO) false,.vec DU (CS 25 x.keys) false,.abs (.mem Ak (x.AO.map some)) false,.abs (.mem Ak (C7 x.keys)) false]
theorem xP{ρ:Ren}{p1 p2 p3 p4 p5 q1 q2 q3 q4 q5:AJ}(h1:BF ρ p1=some q1)(h2:BF ρ p2=some q2)(h3:BF ρ p3=some q3)(h4:BF ρ p4=some q4)(h5:BF ρ p5=some q5):
 ∀(i:Nat)(p:AJ),[p1,p2,p3,p4,p5][i]? = some p->∃q,[q1,q2,q3,q4,q5][i]? = some q/\BF ρ p=some q
 | 0,_,h=>by cases h;exact⟨_,rfl,h1⟩
 | 1,_,h=>by cases h;exact⟨_,rfl,h2⟩
 | 2,_,h=>by cases h;exact⟨_,rfl,h3⟩
 | 3,_,h=>by cases h;exact⟨_,rfl,h4⟩
 | 4,_,h=>by cases h;exact⟨_,rfl,h5⟩
 | i+5,_,h=>by cases h
theorem Ta(x:B6)(objs:Ay)(hr:Bh (.idx x) objs):objs.length=6/\EU (DT ⟨.leaf,20⟩ [.abs (.pack (.idx x)) false]) 20 false objs (hp (UB x)) []:=by
 cases hr with
 | idx=>
  refine⟨rfl,?_⟩;have:=F5 (N:=20) (s:= .idx x) (os:=[]) (o:= .cells [.pointer (some ⟨1,0,none⟩),.slice (some ⟨2,0,some 0⟩) x.AO.length cU] 0 false) (o1:= .cells [Al 21,Aq 22 x.AO.length] 0 false)
   (ps:=[.cells [.bool true,.slice (some ⟨3,0,some 0⟩) x.keys.length cU] 0 false,.vec [.tok] (DM 4 x.AO) false,.vec [.str,.tok] (CS 5 x.keys) false,.abs (.mem Ak (x.AO.map some)) false,.abs (.mem Ak (x.keys.map fun p=>some p.2)) false])
   (ps1:=[.cells [.bool true,Aq 23 x.keys.length] 0 false,.vec [.tok] (DM 24 x.AO) false,.vec DU (CS 25 x.keys) false,.abs (.mem Ak (x.AO.map some)) false,.abs (.mem Ak (C7 x.keys)) false]) rfl rfl
   (xP rfl (LP (by rfl) _ _) (LF (by rfl) _ _) rfl rfl)
  have e:Dv ((DT ⟨.leaf,20⟩ [.abs (.pack (.idx x)) false]).put 20 (.cells [Al 21,Aq 22 x.AO.length] 0 false)) [.cells [.bool true,Aq 23 x.keys.length] 0 false,.vec [.tok] (DM 24 x.AO) false,.vec DU (CS 25 x.keys) false,.abs (.mem Ak (x.AO.map some)) false,.abs (.mem Ak (C7 x.keys)) false]=hp (UB x):=by kernel_rfl
  rw[e]at this;exact this
structure sj(m r y a b:Nat)(x:B6)(H:AA):Prop where
 nd:[20,m,r,y,a,b].Nodup
 g0:H.get 20=some (.cells [Al m,Aq r x.AO.length] 0 false)
 g1:H.get m=some (.cells [.bool true,Aq y x.keys.length] 0 false)
 g2:H.get r=some (.vec [.tok] (DM a x.AO) false)
 g3:H.get y=some (.vec DU (CS b x.keys) false)
 g4:H.get a=some (.abs (.mem Ak (x.AO.map some)) false)
 g5:H.get b=some (.abs (.mem Ak (C7 x.keys)) false)
theorem UK{base:Env}{W0 W:World}{Z:AW}{H:AA}(h:AH base W0 Z H W){m r y a b:Nat}{x:B6}(hI:sj m r y a b x H)(hd:∀z∈[20,m,r,y,a,b],∃T,Z z=some T):AH base W0 Z (J2 (.idx x) [20,m,r,y,a,b] H) W/\(J2 (.idx x) [20,m,r,y,a,b] H).get 20=some (.abs (.pack (.idx x)) false):=by
 have hS:=Ez (s:= .idx x) (H:=H) hI.nd;refine⟨(h.shut (Bh.idx x) hI.nd rfl (by simp) hd (fun i z o hz ho=>?_) hS (fun o T ho=>by cases ho;exact id)).1,hS.root 20 rfl⟩
 match i,hz,ho with
 | 0,hz,ho=>cases hz;cases ho;exact⟨_,hI.g0,rfl,rfl,rfl⟩
 | 1,hz,ho=>cases hz;cases ho;exact⟨_,hI.g1,rfl,rfl,rfl⟩
 | 2,hz,ho=>cases hz;cases ho;exact⟨_,hI.g2,rfl,rfl,LP (by rfl) _ _⟩
 | 3,hz,ho=>cases hz;cases ho;exact⟨_,hI.g3,rfl,rfl,LF (by rfl) _ _⟩
 | 4,hz,ho=>cases hz;cases ho;exact⟨_,hI.g4,rfl,rfl,rfl⟩
 | 5,hz,ho=>cases hz;cases ho;exact⟨_,hI.g5,rfl,rfl,rfl⟩
 | i+6,hz,ho=>cases hz
def rowP(S:List (A6))(s n:Nat):List (EK.C [.tok]):=(DM 24 S).set s (Aq 26 n)
def F6(S:List (A6))(s:Nat):Eu:=(S.map some).set s none
theorem Se{Z:AW}{S:List (A6)}{s a z:Nat}{l:A6}(hs:S[s]? = some l)(hv:∀(n c:Nat)(w:Value),AF Z (.slice (some ⟨a,1,some s⟩) n c) w->AF Z (.slice (some ⟨z,0,some 0⟩) n c) w)(w:AL)(h:Af Z (Ac [.tok] (DM a S)) w):Af Z (Ac [.tok] ((DM a S).set s (Aq z l.length))) w:=by
 rw[D8]at h ⊢;refine Af.VH _ _ _ (AAk ..) (fun i v v' e1 e2 u hu=>?_) h;rw[AAe]at e2
 by_cases he:s=i
 .subst he;rw[AAZ rfl]at e2;split at e2
  .cases e2
   rw[JB,hs]at e1;cases e1
   exact hv _ _ _ hu
  .cases e2
 .rw[AAW he]at e2;rw[e1]at e2;cases e2;exact hu
theorem WK{base:Env}{W0 W:World}{Z:AW}{x:B6}{s:Nat}{l:A6}(hs:x.AO[s]? = some l)(h:AH base W0 Z (hp (UB x)) W)(hd:∀z,20<=z/\z < 26->∃T,Z z=some T):
 ∃μ2,Z.le μ2/\AH base W0 μ2 (hp (ZL x.AO.length x.keys.length (rowP x.AO s l.length) (CS 25 x.keys) (F6 x.AO s) (C7 x.keys) l)) W/\∀z,20<=z/\z < 27->∃T,μ2 z=some T:=by
 obtain⟨T,hT⟩:=hd 24 (by decide);obtain⟨M,h1,h2⟩:=h.bQ (k:=Ak) (a:=24) (j:=s) (L:=x.AO.map some) (l:=l) (by kernel_rfl) hT (by rw[AAi,hs];rfl);have hnx:(hp (UB x)).next=26:=by kernel_rfl
 have hle:Z.le (Z.ext 26 M):=AW.CV M (h.fresh 26 (AAT _)).2;have h3:=h1.JZ (b:=22) (k:=[.tok]) (x:=DM 24 x.AO) (x':=rowP x.AO s l.length) (ro:=false) (by rw[GZ,hnx,AAW (by decide),AAW (by decide)];kernel_rfl) (by unfold rowP;rw[AAk]) (fun w hw=>Se hs (fun n c w hv=>h2 n c w hv) w hw);refine⟨_,hle,h3.congr (fun z=>?_) rfl,fun z hz=>?_⟩
 .rw[AA.AQ,GZ,hnx]
  by_cases e1:z=22
  .subst e1;rw[AAZ rfl];kernel_rfl
  .rw[AAW e1]
   by_cases e2:z=26
   .subst e2;rw[AAZ rfl];kernel_rfl
   .rw[AAW e2]
    by_cases e3:z=24
    .subst e3;rw[AAZ rfl];kernel_rfl
    .rw[AAW e3];show(DT ⟨.leaf,20⟩ _).get z=(DT ⟨.leaf,20⟩ _).get z;rw[D5,D5]
     by_cases e4:z < 20
     .simp only[AAZ e4]
     .simp only[AAW e4];obtain⟨j,rfl⟩:∃j,z=20+j:=⟨z - 20,by omega⟩
      rw[ACX]
      match j,e1,e2,e3 with
      | 0,_,_,_=>rfl
      | 1,_,_,_=>rfl
      | 2,e1,_,_=>exact absurd rfl e1
      | 3,_,_,_=>rfl
      | 4,_,_,e3=>exact absurd rfl e3
      | 5,_,_,_=>rfl
      | 6,_,e2,_=>exact absurd rfl e2
      | j+7,_,_,_=>rfl
 .by_cases e:z=26
  .subst e;exact⟨M,AW.AY _ _ _⟩
  .obtain⟨T,hT⟩:=hd z (by omega);exact⟨T,hle _ _ hT⟩
theorem iY{base:Env}{W0 W:World}{Z:AW}{ns:Nat}{row:List (EK.C [.tok])}{K:List (Ag × A6)}{LS:Eu}{ls l:A6}{j:Nat}{k:Ag}(hj:K[j]? = some (k,l))(h:AH base W0 Z (hp (ZL ns K.length row (CS 25 K) LS (C7 K) ls)) W)(hd:∀z,20<=z/\z < 27->∃T,Z z=some T):
 ∃μ2,Z.le μ2/\AH base W0 μ2 (hp (l6 ns K.length row ((CS 25 K).set j (k,Aq 27 l.length)) LS ((C7 K).set j none) ls l)) W/\∀z,20<=z/\z < 28->∃T,μ2 z=some T:=by
 obtain⟨T,hT⟩:=hd 25 (by decide);obtain⟨M,h1,h2⟩:=h.bQ (k:=Ak) (a:=25) (j:=j) (L:=C7 K) (l:=l) (by kernel_rfl) hT (by unfold C7;rw[AAi,hj];rfl);have hnx:(hp (ZL ns K.length row (CS 25 K) LS (C7 K) ls)).next=27:=by kernel_rfl
 have hle:Z.le (Z.ext 27 M):=AW.CV M (h.fresh 27 (AAT _)).2;have h3:=h1.JZ (b:=23) (k:=DU) (x:=CS 25 K) (x':=(CS 25 K).set j (k,Aq 27 l.length)) (ro:=false) (by rw[GZ,hnx,AAW (by decide),AAW (by decide)];kernel_rfl) (by rw[AAk]) (fun w hw=>by
  refine Af.aj _ _ _ (AAk ..) (fun i p p' e1 e2=>?_) hw;rw[AAe]at e2
  by_cases he:j=i
  .subst he;rw[AAZ rfl]at e2;split at e2
   .cases e2
    rw[GP,hj]at e1;cases e1
    exact⟨rfl,fun u hu=>h2 _ _ _ hu⟩
   .cases e2
  .rw[AAW he]at e2;rw[e1]at e2;cases e2;exact⟨rfl,fun u hu=>hu⟩)
 refine⟨_,hle,h3.congr (fun z=>?_) rfl,fun z hz=>?_⟩
 .rw[AA.AQ,GZ,hnx]
  by_cases e1:z=23
  .subst e1;rw[AAZ rfl];kernel_rfl
  .rw[AAW e1]
   by_cases e2:z=27
   .subst e2;rw[AAZ rfl];kernel_rfl
   .rw[AAW e2]
    by_cases e3:z=25
    .subst e3;rw[AAZ rfl];kernel_rfl
    .rw[AAW e3];show(DT ⟨.leaf,20⟩ _).get z=(DT ⟨.leaf,20⟩ _).get z;rw[D5,D5]
     by_cases e4:z < 20
     .simp only[AAZ e4]
     .simp only[AAW e4];obtain⟨i,rfl⟩:∃i,z=20+i:=⟨z - 20,by omega⟩
      rw[ACX]
      match i,e1,e2,e3 with
      | 0,_,_,_=>rfl
      | 1,_,_,_=>rfl
      | 2,_,_,_=>rfl
      | 3,e1,_,_=>exact absurd rfl e1
      | 4,_,_,_=>rfl
      | 5,_,_,e3=>exact absurd rfl e3
      | 6,_,_,_=>rfl
      | 7,_,e2,_=>exact absurd rfl e2
      | i+8,_,_,_=>rfl
 .by_cases e:z=27
  .subst e;exact⟨M,AW.AY _ _ _⟩
  .obtain⟨T,hT⟩:=hd z (by omega);exact⟨T,hle _ _ hT⟩
section
variable {base:Env}{W0 W:World}{Z:AW}{H:AA}
theorem Sa(h:AH base W0 Z H W){S:List (A6)}{s w1:Nat}{l1:A6}(hs:s < S.length)(h24:H.get 24=some (.abs (.mem Ak (F6 S s)) false))(hk:∃T,Z 24=some T)(hw:H.get w1=some (.vec Ak l1 false))(hkw:∃T,Z w1=some T)(h22:H.get 22=some (.vec [.tok] ((DM 24 S).set s (Aq w1 l1.length)) false)):
 ∃μ2 H2,Z.le μ2/\AH base W0 μ2 H2 W/\(∃T,μ2 H.next=some T)/\H2.next=H.next+1/\H2.get H.next=some (.abs (.mem Ak ((S.set s l1).map some)) false)/\H2.get 22=some (.vec [.tok] (DM H.next (S.set s l1)) false)/\∀z,z≠H.next->z≠22->z≠w1->z≠24->H2.get z=H.get z:=by
 obtain⟨T,hT⟩:=hk;obtain⟨M,hM⟩:=hkw;have h22l:=h.lt h22;have hw1l:=h.lt hw;have hw22:(22:Nat)≠w1:=by rintro rfl;rw[h22]at hw;cases hw
 obtain⟨T2,h2,c1,c2⟩:=h.lC (a:=24) (z:=w1) (j:=s) (k:=Ak) (by decide) (C:=S.set s l1) h24 hT hw hM (by rw[AAe,AAZ rfl,AAZ hs]) id (fun i m hi hm=>by
  rw[AAe,AAW (ABB hi)]at hm;show(F6 S s)[i]? = _;unfold F6;rw[AAe,AAW (ABB hi),AAi,hm];rfl) (fun i i' _ _ _ _ e=>e)
 have hle:Z.le (Z.ext H.next T2):=AW.CV T2 (h.fresh H.next (AAT _)).2;have g22:=(GQ (H:=H) (a:=24) (z:=w1) (j:=s) (k:=Ak) (L2:=((S.set s l1).map some).set s none) (l:=l1) 22);have hfull:(((S.set s l1).map some).set s none).set s (some l1)=(S.set s l1).map some:=by
  rw[ACK];have:((S.set s l1).map some)[s]? = some (some l1):=by rw[AAi,AAe,AAZ rfl,AAZ hs];rfl
  obtain⟨q1,q2⟩:=List.getElem?_eq_some_iff.1 this;rw[<-q2,AB1]
 rw[hfull]at g22;have gAll:=fun z=>(GQ (H:=H) (a:=24) (z:=w1) (j:=s) (k:=Ak) (L2:=((S.set s l1).map some).set s none) (l:=l1) z)
 rw[hfull]at gAll;have h3:=h2.JZ (b:=22) (k:=[.tok]) (x:=(DM 24 S).set s (Aq w1 l1.length)) (x':=DM H.next (S.set s l1)) (ro:=false) (by rw[gAll,AAW (by omega),AAW hw22,AAW (by decide)];exact h22) (by rw[Co,AAk,AAk,Co]) (fun w hw=>by
  rw[D8]at hw ⊢;refine Af.VH _ _ _ (by rw[Co,AAk,AAk,Co]) (fun i v v' e1 e2 u hu=>?_) hw;rw[JB]at e2;rw[AAe]at e1 e2
  by_cases he:s=i
  .subst he;rw[AAZ rfl]at e1 e2;rw[AAZ hs]at e2;rw[AAZ (by rw[Co];exact hs)]at e1;cases e1;cases e2
   exact c2 _ _ _ hu
  .rw[AAW he]at e1 e2;rw[JB]at e1;cases hS:S[i]? with
   | none=>rw[hS]at e1;cases e1
   | some l=>
    rw[hS]at e1 e2;cases e1;cases e2
    exact c1 i _ _ _ (ABB he) (by rw[AAk];exact(List.getElem?_eq_some_iff.1 hS).1) hu)
 refine⟨_,_,hle,h3,⟨T2,AW.AY _ _ _⟩,rfl,?_,?_,fun z z1 z2 z3 z4=>?_⟩
 .rw[AA.AQ,AAW (by omega),gAll,AAZ rfl]
 .rw[AA.AQ,AAZ rfl]
 .rw[AA.AQ,AAW z2,gAll,AAW z1,AAW z3,AAW z4]
theorem cT(h:AH base W0 Z H W){LK:Eu}{K:List (Ag × A6)}{j y w3:Nat}{k:Ag}{l3:A6}{krow:B2}(h25:H.get 25=some (.abs (.mem Ak LK) false))(hk:∃T,Z 25=some T)(hw:H.get w3=some (.vec Ak l3 false))(hkw:∃T,Z w3=some T)(hy:H.get y=some (.vec DU krow false))(hK:K[j]? = some (k,l3))(σ:Nat->Nat)(hlen:krow.length=K.length)(Ji:∀(i:Nat)(p q:Ag × _),krow[i]? = some p->K[i]? = some q->p.1=q.1/\(i=j->p.2=Aq w3 l3.length)/\(i≠j->p.2= .slice (some ⟨25,1,some (σ i)⟩) q.2.length cU/\LK[σ i]? = some (some q.2)))(hσ:∀(i i':Nat),i≠j->i'≠j->i < K.length->i' < K.length->σ i=σ i'->i=i'):
 ∃μ2 H2,Z.le μ2/\AH base W0 μ2 H2 W/\(∃T,μ2 H.next=some T)/\H2.next=H.next+1/\H2.get H.next=some (.abs (.mem Ak (C7 K)) false)/\H2.get y=some (.vec DU (CS H.next K) false)/\∀z,z≠H.next->z≠y->z≠w3->z≠25->H2.get z=H.get z:=by
 obtain⟨T,hT⟩:=hk;obtain⟨M,hM⟩:=hkw;have hyl:=h.lt hy;have hjl:j < K.length:=(List.getElem?_eq_some_iff.1 hK).1;have hwy:y≠w3:=by rintro rfl;rw[hy]at hw;cases hw
 have hy25:y≠25:=by rintro rfl;rw[hy]at h25;cases h25
 have hC:(K.map Prod.snd).map some=C7 K:=by unfold C7;rw[ACY];rfl
 have hsel:∀(i:Nat)(m:A6),i≠j->(K.map Prod.snd)[i]? = some m->LK[σ i]? = some (some m):=fun i m hi hm=>by
  rw[AAi]at hm;cases hq:K[i]? with
  | none=>rw[hq]at hm;cases hm
  | some q=>
   rw[hq]at hm;cases hm
   have hil:=(List.getElem?_eq_some_iff.1 hq).1;exact((Ji i _ q (AAU (by rw[hlen];exact hil)) hq).2.2 hi).2
 obtain⟨T2,h2,c1,c2⟩:=h.lC (a:=25) (z:=w3) (j:=j) (k:=Ak) (by decide) (C:=K.map Prod.snd) h25 hT hw hM (by rw[AAi,hK];rfl) σ hsel (fun i i' a b c d e=>hσ i i' a b (by simpa using c) (by simpa using d) e);rw[hC]at h2;have hle:Z.le (Z.ext H.next T2):=AW.CV T2 (h.fresh H.next (AAT _)).2;have hfull:((C7 K).set j none).set j (some l3)=C7 K:=by
  rw[ACK];have:(C7 K)[j]? = some (some l3):=by unfold C7;rw[AAi,hK];rfl
  obtain⟨q1,q2⟩:=List.getElem?_eq_some_iff.1 this;rw[<-q2,AB1]
 have gAll:=fun z=>(GQ (H:=H) (a:=25) (z:=w3) (j:=j) (k:=Ak) (L2:=(C7 K).set j none) (l:=l3) z)
 rw[hfull]at gAll;have h3:=h2.JZ (b:=y) (k:=DU) (x:=krow) (x':=CS H.next K) (ro:=false) (by rw[gAll,AAW (by omega),AAW hwy,AAW hy25];exact hy) (by rw[Cm,hlen]) (fun w hw=>by
  refine Af.aj _ _ _ (by rw[Cm,hlen]) (fun i p p' e1 e2=>?_) hw;rw[GP]at e2;cases hq:K[i]? with
  | none=>rw[hq]at e2;cases e2
  | some q=>
   rw[hq]at e2;cases e2
   obtain⟨r1,r2,r3⟩:=Ji i p q e1 hq;refine⟨r1.symm,fun u hu=>?_⟩
   by_cases he:i=j
   .subst he;rw[hK]at hq;cases hq
    rw[r2 rfl]at hu;exact c2 _ _ _ hu
   .rw[(r3 he).1]at hu;exact c1 i _ _ _ he (by simpa using (List.getElem?_eq_some_iff.1 hq).1) hu)
 refine⟨_,_,hle,h3,⟨T2,AW.AY _ _ _⟩,rfl,?_,?_,fun z z1 z2 z3 z4=>?_⟩
 .rw[AA.AQ,AAW (by omega),gAll,AAZ rfl]
 .rw[AA.AQ,AAZ rfl]
 .rw[AA.AQ,AAW z2,gAll,AAW z1,AAW z3,AAW z4]
end
theorem rD{N:Nat}{ids:AP}{b o n c:Nat}{s:Option Nat}(h:b < N):NT (Fk N ids) (.slice (some ⟨b,o,s⟩) n c)= .slice (some ⟨b,o,s⟩) n c:=by
 have e:Fk N ids b=some b:=by
  unfold Fk;rw[show Nat.blt b N=true from AAS h];rfl
 show(match Fk N ids b with | some i=>Value.slice (some ⟨i,o,s⟩) n c | none=>Bo)=_;rw[e]
def Xb(N:Nat)(v:Value):Prop:=∃b o s n c,v= .slice (some ⟨b,o,s⟩) n c/\b < N
theorem Gv{N:Nat}(ids:AP)(l:AL)(h:∀v∈l,Xb N v):List.map (NT (Fk N ids)) l=l:=by
 have:List.map (NT (Fk N ids)) l=List.map id l:=AB9 fun v hv=>by
  obtain⟨b,o,s,n,c,rfl,hb⟩:=h v hv;exact rD hb
 rw[this,ADN]
theorem Js{N:Nat}(ids:AP)(l:B2)(h:∀p∈l,Xb N p.2):Xc (Fk N ids) l=l:=by
 have:Xc (Fk N ids) l=List.map id l:=AB9 fun v hv=>by
  obtain⟨b,o,s,n,c,e,hb⟩:=h v hv;show(v.1,NT (Fk N ids) v.2)=v;rw[e,rD hb,<-e]
 rw[this,ADN]
def RG(q:Int)(a:Ag)(d:Bool)(z:Int)(e:HO):Bool:=e.1==q&& !(e.1==q&&(ByteArray.toList e.2.1==ByteArray.toList a&&(e.2.2.1==d&&(e.2.2.2.2.2==z))))
def OX(q s:Int)(e:HO):Bool:=e.1==q&&e.2.2.2.1==s
def KI(q:Int)(a:Ag)(d:Bool)(s z:Int):A6->Bool->Option Bool
 | [],hv=>some hv
 | e::r,hv=>bif RG q a d z e then none else KI q a d s z r (hv||OX q s e)
def SP(ls:A6)(o z:Int):Bool:=Zx ls.length (HB ls o) (J5 ls o)||
 ((decide ((J5 ls o:Int) > 0)&&decide (IntKind.wrap .i64 ((D9 ls (J5 ls o - 1)).2.2.2.2.1+(D9 ls (J5 ls o - 1)).2.2.2.2.2) > o))||
  (decide (J5 ls o < ls.length)&&decide (IntKind.wrap .i64 (o+z) > (D9 ls (J5 ls o)).2.2.2.2.1)))
def ag(ls lk:A6)(q:Int)(a:Ag)(d:Bool)(s o z:Int):Int:=match KI q a d s z lk false with
 | none=>2
 | some hv=>bif hv||SP ls o z then 6 else 0
structure LZ(ns nk:Nat)(row:List (EK.C [.tok]))(krow:B2)(ls lk:A6)(q:Int)(a:Ag)(d:Bool)(s:Nat)(o z:Int)(j:Nat):Prop where
 EX:Mx q a d o z
 sq:∀v∈row,Xb 28 v
 rW:∀p∈krow,Xb 28 p.2
 hs:s < ns
 OP:ns=row.length
 Ji:row.getD s (EK.BJ [.tok])=Aq 26 ls.length
 OO:nk=krow.length
 QR:nk < 80000
 hr:B0 krow a=j
 hh:GK krow a=true
 hj:j < nk
 xm:(krow.getD j (EK.BJ DU)).2=Aq 27 lk.length
 PV:ls.length < 80000
 mb:lk.length < 80000
section
variable {ns nk:Nat}{row:List (EK.C [.tok])}{krow:B2}{LS LK:Eu}{ls lk:A6}{q:Int}{a:Ag}{d:Bool}{s:Nat}{o z:Int}{j:Nat}
def uQ(ns nk:Nat)(row:List (EK.C [.tok]))(krow:B2)(LS LK:Eu)(ls lk:A6):J9:=(l6 ns nk row krow LS LK ls lk).map some
theorem IZ{a b:Nat}(h:a < b):Nat.blt a b=true:=AAS h
theorem HN{a n:Nat}(h:a < n):(decide ((0:Int)<=(a:Int))&&Nat.blt a n)=true:=by
 rw[IZ h,AAY (show(0:Int)<=(a:Int) by omega)];rfl
theorem My(h:LZ ns nk row krow ls lk q a d s o z j)(ids:AP):zB ids row=row:=Gv ids row h.sq
theorem MS(h:LZ ns nk row krow ls lk q a d s o z j)(ids:AP):y9 ids krow=krow:=Js ids krow h.rW
theorem jY(h:LZ ns nk row krow ls lk q a d s o z j):Ha (SK.enc SK.tok (List.getD row s (EK.BJ [SK.tok]))) (Aq 26 ls.length):=⟨h.Ji⟩
theorem ri(h:LZ ns nk row krow ls lk q a d s o z j):Ha (SK.enc SK.tok (Prod.snd (List.getD krow j (EK.BJ DU)))) (Aq 27 lk.length):=⟨h.xm⟩
def Yh(ns nk:Nat)(row:List (EK.C [.tok]))(krow:B2)(LS LK:Eu)(ls lk:A6)(q:Int)(a:Ag)(d:Bool)(s:Nat)(o z:Int)(j:Nat)(res:Int)(v:Value)(H:AA):Prop:=
 v=int res/\((res≠0/\[20,21,22,23,24,25,26,27].map H.get=uQ ns nk row krow LS LK ls lk)\/
  (res=0/\[20,21,22,23,24,25,32,35].map H.get=uQ ns nk (row.set s (Aq 32 (ls.length+1))) (krow.set j ((krow.getD j (EK.BJ DU)).1,Aq 35 (lk.length+1))) LS LK (Ge ls (J5 ls o) (q,a,d,(s:Int),o,z)) (Ge lk (Ox lk.length (FK lk q s)) (q,a,d,(s:Int),o,z))))
theorem nO(h:LZ ns nk row krow ls lk q a d s o z j):Aa jU 28 AE (Yh ns nk row krow LS LK ls lk q a d s o z j 0) (wB ns nk row krow LS LK ls lk ls.length lk.length q a d s o z (J5 ls o)):=by
 have hr1:J5 ls o<=ls.length:=(Jz _ _ _ _ (AA4 _)).2;have hr2:Ox lk.length (FK lk q s)<=lk.length:=(Jz _ _ _ _ (AA4 _)).2;have et:List.take lk.length (List.drop 0 lk)=lk:=by rw[AA5,AAc (AAT _)]
 have OP:=h.OP;have PV:=h.PV;have mb:=h.mb;have OO:=h.OO;have QR:=h.QR;have hj:=h.hj;have i1:=HN h.hs;have i2:Nat.blt s row.length=true:=IZ (by rw[<-OP];exact h.hs);have i3:=HN hj;have i4:Nat.blt j krow.length=true:=IZ (by rw[<-OO];exact hj);have hv:Bu jU (As (ej j true)) [(22,Aq 26 ls.length),(23,Aq 27 lk.length)] AE [20,21,22,23,24,25,32,35] 28 (fun v os=>v=int 0/\os=uQ ns nk (row.set s (Aq 32 (ls.length+1))) (krow.set j ((krow.getD j (EK.BJ DU)).1,Aq 35 (lk.length+1))) LS LK (Ge ls (J5 ls o) (q,a,d,(s:Int),o,z)) (Ge lk (Ox lk.length (FK lk q s)) (q,a,d,(s:Int),o,z))) 900 (wB ns nk row krow LS LK ls lk ls.length lk.length q a d s o z (J5 ls o)):=by
  rw[vE];(conv=>zeta)
  rw[et];simp only[AAa,AAj,ACo]
  repeat' first
   | refine AD i1 ?_
   | refine AD i2 ?_
   | refine AD i3 ?_
   | refine AD i4 ?_
   | exact ri h
   | exact hr1
   | exact hr2
   | exact OO
   | exact h.hr
   | exact h.hh
   | exact bM (by omega)
   | omega
   | exact And.intro rfl rfl
   | exact rfl
   | apply And.intro
 refine Aa.mono (Av (vL j true).pf (by kernel_rfl) hv) fun v H hq=>?_
 obtain⟨e,hos⟩:=hq;subst e;exact⟨rfl,.inr ⟨rfl,hos⟩⟩
def zV(ls:A6)(r:Nat)(o z:Int)(E6 M:Prop):Prop:=bif decide ((r:Int) < Int.ofNat ls.length)then(bif decide ((0:Int)<=(r:Int))&&Nat.blt r ls.length then(bif Nat.blt r ls.length then(bif decide (IntKind.wrap .i64 (o+z) > (D9 ls r).2.2.2.2.1)then E6 else M)else False)else False)else M
def ovT(ls:A6)(r:Nat)(o z:Int)(E6 M:Prop):Prop:=bif decide ((r:Int) > 0)then(bif decide ((0:Int)<=IntKind.wrap .i64 ((r:Int) - 1))&&Nat.blt (Int.toNat (IntKind.wrap .i64 ((r:Int) - 1))) ls.length then(bif Nat.blt (Int.toNat (IntKind.wrap .i64 ((r:Int) - 1))) ls.length then
 (bif decide ((0:Int)<=IntKind.wrap .i64 ((r:Int) - 1))&&Nat.blt (Int.toNat (IntKind.wrap .i64 ((r:Int) - 1))) ls.length then(bif Nat.blt (Int.toNat (IntKind.wrap .i64 ((r:Int) - 1))) ls.length then
 (bif decide (IntKind.wrap .i64 ((D9 ls (Int.toNat (IntKind.wrap .i64 ((r:Int) - 1)))).2.2.2.2.1+(D9 ls (Int.toNat (IntKind.wrap .i64 ((r:Int) - 1)))).2.2.2.2.2) > o)then E6 else zV ls r o z E6 M)else False)else False)else False)else False)else zV ls r o z E6 M
theorem gJ{ls:A6}{r:Nat}{o z:Int}{E6 M:Prop}(h6:(decide (r < ls.length)&&decide (IntKind.wrap .i64 (o+z) > (D9 ls r).2.2.2.2.1))=true->E6)(h0:(decide (r < ls.length)&&decide (IntKind.wrap .i64 (o+z) > (D9 ls r).2.2.2.2.1))=false->M):zV ls r o z E6 M:=by
 unfold zV
 by_cases h:r < ls.length
 .rw[AAY h,AB5]at h6 h0;exact AD (AAY (by show(r:Int) < (ls.length:Int);omega)) (AD (HN h) (AD (IZ h) (Cz h6 h0)))
 .rw[AAb h]at h0;exact AK (AAb (by show ¬(r:Int) < (ls.length:Int);omega)) (h0 rfl)
theorem iE{ls:A6}{r:Nat}{o z:Int}{E6 M:Prop}(hr:r<=ls.length)(hl:ls.length < 80000)(h6:((decide ((r:Int) > 0)&&decide (IntKind.wrap .i64 ((D9 ls (r - 1)).2.2.2.2.1+(D9 ls (r - 1)).2.2.2.2.2) > o))||(decide (r < ls.length)&&decide (IntKind.wrap .i64 (o+z) > (D9 ls r).2.2.2.2.1)))=true->E6)(h0:((decide ((r:Int) > 0)&&decide (IntKind.wrap .i64 ((D9 ls (r - 1)).2.2.2.2.1+(D9 ls (r - 1)).2.2.2.2.2) > o))||(decide (r < ls.length)&&decide (IntKind.wrap .i64 (o+z) > (D9 ls r).2.2.2.2.1)))=false->M):ovT ls r o z E6 M:=by
 unfold ovT
 by_cases h:(r:Int) > 0
 .have e:IntKind.wrap .i64 ((r:Int) - 1)=((r - 1:Nat):Int):=by rw[wrap64 (by omega) (by omega)];omega
  rw[AAY h,AB5]at h6 h0;rw[e,AAa];have hlt:r - 1 < ls.length:=by omega
  refine AD (AAY h) (AD (HN hlt) (AD (IZ hlt) (AD (HN hlt) (AD (IZ hlt) (Cz (fun c=>h6 (by rw[c];rfl)) fun c=>?_)))));rw[c,ABw]at h6 h0;exact gJ h6 h0
 .rw[AAb h,ACn,ABw]at h6 h0;exact AK (AAb h) (gJ h6 h0)
theorem td(h:LZ ns nk row krow ls lk q a d s o z j){hv:Bool}(i:Nat)(hi:lk.length<=i){Q:Bz}{R R2:Cy}(h6:(hv||SP ls o z)=true->Q (int 6) (uQ ns nk row krow LS LK ls lk))(h0:(hv||SP ls o z)=false->R2 (wB ns nk row krow LS LK ls lk ls.length lk.length q a d s o z (J5 ls o))):
 ZX jU (As (ej j true)) [(22,Aq 26 ls.length),(23,Aq 27 lk.length)] AE [20,21,22,23,24,25,26,27] q8 (fun c=>q8.here c) vQ (OJ AE 0 0 20) lr Q R R2 900 (lz ns nk row krow LS LK ls lk lk.length q a d s o z hv (i:Int)):=by
 have hr1:J5 ls o<=ls.length:=(Jz _ _ _ _ (AA4 _)).2;have OP:=h.OP;have PV:=h.PV;have i1:=HN h.hs;have i2:Nat.blt s row.length=true:=IZ (by rw[<-OP];exact h.hs);rw[qX];(conv=>zeta);rw[My h,My h,MS h,MS h]
 have hlt:¬((i:Int) < (lk.length:Int)):=by omega
 refine AK (AAb hlt) ?_;unfold SP at h6 h0;generalize hR:J5 ls o=r at hr1 h6 h0;have hR':Ox ls.length (HB ls o)=r:=hR;rw[hR'];simp only[AAa,AAj,ACo];refine AD i1 (AD i2 ⟨jY h,⟨by omega,?_⟩⟩);refine Cz (fun c=>⟨by rw[c],AD i1 (AD i2 ⟨jY h,?_⟩)⟩) fun c=>⟨by rw[c],AD i1 (AD i2 ⟨jY h,?_⟩)⟩
 .rw[c]at h6;have h6:=h6 (by cases hv<;>rfl);exact Cz (fun _=>h6) fun _=>h6
 .rw[c,ABw]at h6 h0;refine Cz (fun hv1=>h6 (by rw[hv1];rfl)) fun hv1=>?_
  rw[hv1,ABw]at h6 h0;exact iE hr1 PV h6 h0
end
def Qx(q:Int)(a:Ag)(d:Bool)(s o z:Int)(ls r:A6)(hv:Bool):Int:=match KI q a d s z r hv with
 | none=>2
 | some hv=>bif hv||SP ls o z then 6 else 0
section
variable {ns nk:Nat}{row:List (EK.C [.tok])}{krow:B2}{LS LK:Eu}{ls lk:A6}{q:Int}{a:Ag}{d:Bool}{s:Nat}{o z:Int}{j:Nat}
theorem jN(i:Nat)(b:Bool):Hm jU (As (ej i b)):=by
 have:=(vL i b).pf;have e:C8 (ej i b)=C8 (ej 0 true):=rfl;rw[e]at this;exact this
theorem mN(h:LZ ns nk row krow ls lk q a d s o z j){hv:Bool}{i:Nat}(hi:i < lk.length){Q:Bz}{R R2:Cy}(h2:RG q a d z (D9 lk i)=true->Q (int 2) (uQ ns nk row krow LS LK ls lk))(h0:RG q a d z (D9 lk i)=false->R (lz ns nk row krow LS LK ls lk lk.length q a d s o z (hv||OX q s (D9 lk i)) ((i+1:Nat):Int))):
 ZX jU (As (ej j true)) [(22,Aq 26 ls.length),(23,Aq 27 lk.length)] AE [20,21,22,23,24,25,26,27] q8 (fun c=>q8.here c) vQ (OJ AE 0 0 20) lr Q R R2 900 (lz ns nk row krow LS LK ls lk lk.length q a d s o z hv (i:Int)):=by
 have mb:=h.mb;rw[qX];(conv=>zeta);rw[My h,My h,MS h,MS h]
 have hw:IntKind.wrap .i64 ((i:Int)+1)=((i+1:Nat):Int):=by rw[wrap64 (by omega) (by omega)];rfl
 rw[hw];simp only[AAa,AAj,ACo,ACB,AB5,AC8];refine AD (AAY (by omega)) (AD (HN hi) (AD (IZ hi) ?_));have e:List.getD lk i (EK.BJ Ak)=D9 lk i:=rfl;rw[e];unfold RG at h2 h0;unfold OX at h0;generalize D9 lk i=en at h2 h0 ⊢;cases h1:(en.1==q)
 .rw[h1]at h0;have h0:=h0 rfl;refine AK rfl (Cz (fun e=>?_) fun e=>?_)
  .subst e;exact h0
  .subst e;exact AK rfl h0
 .rw[h1]at h0 h2;simp only[AB5]at h0 h2 ⊢;refine AD rfl (Cz h2 fun c=>?_);have h0:=h0 c;refine Cz (fun e=>?_) fun e=>?_
  .subst e;exact h0
  .subst e;refine AD rfl ?_;cases hs:(en.2.2.2.1==(s:Int))
   .rw[hs]at h0;exact AK rfl h0
   .rw[hs]at h0;exact AD rfl h0
theorem qP(h:LZ ns nk row krow ls lk q a d s o z j):∀(n i:Nat)(hv:Bool),lk.length - i=n->i<=lk.length->
 Aa jU 28 AE (Yh ns nk row krow LS LK ls lk q a d s o z j (Qx q a d s o z ls (lk.drop i) hv)) (lz ns nk row krow LS LK ls lk lk.length q a d s o z hv i):=by
 intro n;induction n with
 | zero=>
  intro i hv hn hi;have hd:lk.drop i=[]:=ABp (by omega);rw[hd];unfold Qx KI;simp only;refine Ti (jN j true) (M:=28) (by kernel_rfl) (by decide) (by decide) (Q:=fun v os=>(hv||SP ls o z)=true/\v=int 6/\os=uQ ns nk row krow LS LK ls lk) (R:=fun _=>False) (R2:=fun c=>(hv||SP ls o z)=false/\c=wB ns nk row krow LS LK ls lk ls.length lk.length q a d s o z (J5 ls o)) (fun v H hq=>?_) (fun c h=>h.elim) (fun c hc=>?_) 900 _ (td h i (by omega) (fun e=>⟨e,rfl,rfl⟩) fun e=>⟨e,rfl⟩)
  .obtain⟨e,rfl,hos⟩:=hq;rw[e];exact⟨rfl,.inl ⟨by show(6:Int)≠0;decide,hos⟩⟩
  .obtain⟨e,rfl⟩:=hc;rw[e];exact nO h
 | succ n ih=>
  intro i hv hn hi;have hlt:i < lk.length:=by omega
  have hd:lk.drop i=D9 lk i::lk.drop (i+1):=by
   rw[ABm hlt]
   congr 1
   unfold D9;rw[AAX,AAU hlt];rfl
  have hres:Qx q a d s o z ls (lk.drop i) hv=bif RG q a d z (D9 lk i)then 2 else Qx q a d s o z ls (lk.drop (i+1)) (hv||OX q s (D9 lk i)):=by
   rw[hd];unfold Qx;have ef:KI q a d s z (D9 lk i::lk.drop (i+1)) hv=bif RG q a d z (D9 lk i)then none else KI q a d s z (lk.drop (i+1)) (hv||OX q s (D9 lk i)):=rfl
   rw[ef];cases RG q a d z (D9 lk i)<;>rfl
  rw[hres];refine Ti (jN j true) (M:=28) (by kernel_rfl) (by decide) (by decide) (Q:=fun v os=>RG q a d z (D9 lk i)=true/\v=int 2/\os=uQ ns nk row krow LS LK ls lk) (R:=fun c=>RG q a d z (D9 lk i)=false/\c=lz ns nk row krow LS LK ls lk lk.length q a d s o z (hv||OX q s (D9 lk i)) ((i+1:Nat):Int)) (R2:=fun _=>False) (fun v H hq=>?_) (fun c hc=>?_) (fun c h=>h.elim) 900 _ (mN h hlt (fun e=>⟨e,rfl,rfl⟩) fun e=>⟨e,rfl⟩)
  .obtain⟨e,rfl,hos⟩:=hq;rw[e];exact⟨rfl,.inl ⟨by show(2:Int)≠0;decide,hos⟩⟩
  .obtain⟨e,rfl⟩:=hc;rw[e];exact ih (i+1) _ (by omega) (by omega)
theorem tF(h:LZ ns nk row krow ls lk q a d s o z j):Aa jU 28 AE (Yh ns nk row krow LS LK ls lk q a d s o z j (ag ls lk q a d s o z)) (st AE [Al 20,Gw q a d s o z] (hp (l6 ns nk row krow LS LK ls lk))):=by
 have OO:=h.OO;have QR:=h.QR;have hj:=h.hj;have hns0:=h.hs;have i3:=HN hj;have i4:Nat.blt j krow.length=true:=IZ (by rw[<-OO];exact hj);refine DA (jN j true) [(22,Aq 26 ls.length),(23,Aq 27 lk.length)] [20,21,22,23,24,25,26,27] q8 lr (by kernel_rfl) (show 28<=28 from AAT _) (fun _ _=>False) (fun c=>c=lz ns nk row krow LS LK ls lk lk.length q a d s o z false 0) (fun v H h=>h.elim) (fun c hc=>by rw[hc];exact qP h lk.length 0 false (by omega) (AA4 _)) (n:=600) ?_;rw[tI];(conv=>zeta);rw[My h,MS h]
 simp only[AAa,AAj,ACo];have hs0:0 < ns:=by omega
 have hd:decide ((s:Int) < Int.ofNat ns)=true:=AAY (by show(s:Int) < (ns:Int);omega);have hf:nk=krow.length/\nk < 1000000/\B0 krow a=j/\GK krow a=true:=⟨OO,by omega,h.hr,h.hh⟩
 repeat' first
  | exact hf
  | exact h.EX
  | exact ri h
  | exact hs0
  | refine AD hd ?_
  | refine AD i3 ?_
  | refine AD i4 ?_
  | exact rfl
  | exact trivial
  | apply And.intro
end
structure Mz(ns nk:Nat)(row:List (EK.C [.tok]))(krow:B2)(ls:A6)(q:Int)(a:Ag)(d:Bool)(s:Nat)(o z:Int)(j:Nat):Prop where
 EX:Mx q a d o z
 sq:∀v∈row,Xb 27 v
 rW:∀p∈krow,Xb 27 p.2
 hs:s < ns
 OP:ns=row.length
 Ji:row.getD s (EK.BJ [.tok])=Aq 26 ls.length
 OO:nk=krow.length
 QR:nk < 80000
 hr:B0 krow a=j
 hh:GK krow a=false
 PV:ls.length < 80000
theorem lG(i:Nat):Hm vA (As (SI i)):=by
 have:=(rX i).pf;have e:C8 (SI i)=C8 (SI 0):=rfl;rw[e]at this;exact this
theorem fP(i:Nat):Hm cg (As (SE i)):=by
 have:=(lT i).pf;have e:C8 (SE i)=C8 (SE 0):=rfl;rw[e]at this;exact this
theorem qT{n:Nat}(h:n < 100000):Bn 40 n=true:=by
 unfold Bn;rw[AAS (by omega),AAS (by omega)];rfl
theorem pK(l:B2)(h:∀p∈l,Xb 27 p.2):(Ac DU l).all Bc=true:=by
 rw[ACG];intro v hv;unfold Ac at hv;obtain⟨p,hp,hv⟩:=List.mem_flatMap.1 hv;obtain⟨b,o,s,n,c,e,hb⟩:=h p hp;have:v= .string p.1\/v=p.2:=by
  have:v∈[Value.string p.1,p.2]:=hv;simpa using this
 rcases this with rfl | rfl
 .rfl
 .rw[e];rfl
section
variable {ns nk:Nat}{row:List (EK.C [.tok])}{krow:B2}{LS LK:Eu}{ls:A6}{q:Int}{a:Ag}{d:Bool}{s:Nat}{o z:Int}{j:Nat}
def zN(ns nk:Nat)(row:List (EK.C [.tok]))(krow:B2)(LS LK:Eu)(ls:A6):J9:=(ZL ns nk row krow LS LK ls).map some
theorem kH(h:Mz ns nk row krow ls q a d s o z j)(ids:AP):tD ids row=row:=Gv ids row h.sq
theorem kr(h:Mz ns nk row krow ls q a d s o z j)(ids:AP):so ids krow=krow:=Js ids krow h.rW
theorem XT(h:Mz ns nk row krow ls q a d s o z j):Ha (SK.enc SK.tok (List.getD row s (EK.BJ [SK.tok]))) (Aq 26 ls.length):=⟨h.Ji⟩
def Q7(ns nk:Nat)(row:List (EK.C [.tok]))(krow:B2)(LS LK:Eu)(ls:A6)(q:Int)(a:Ag)(d:Bool)(s:Nat)(o z:Int)(j:Nat)(res:Int)(v:Value)(H:AA):Prop:=
 v=int res/\((res≠0/\[20,21,22,23,24,25,26].map H.get=zN ns nk row krow LS LK ls)\/
  (res=0/\[20,21,22,24,25,31,36,34].map H.get=[some (.cells [Al 21,Aq 22 ns] 0 false),some (.cells [.bool true,Aq 36 (nk+1)] 0 false),some (.vec [.tok] (row.set s (Aq 31 (ls.length+1))) false),some (.abs (.mem Ak LS) false),some (.abs (.mem Ak LK) false),some (.vec Ak (Ge ls (J5 ls o) (q,a,d,(s:Int),o,z)) false),some (.vec DU (krow.take j++((a,Aq 34 1)::krow.drop j)) false),some (.vec Ak [(q,a,d,(s:Int),o,z)] false)]))
theorem lP(h:Mz ns nk row krow ls q a d s o z j)(hj:j < nk):Aa vA 27 AE (Q7 ns nk row krow LS LK ls q a d s o z j 0) (gq ns nk row krow LS LK ls ls.length q a d s o z (J5 ls o)):=by
 have hr1:J5 ls o<=ls.length:=(Jz _ _ _ _ (AA4 _)).2;have OP:=h.OP;have PV:=h.PV;have OO:=h.OO;have QR:=h.QR;have i1:=HN h.hs;have i2:Nat.blt s row.length=true:=IZ (by rw[<-OP];exact h.hs);have et:List.take nk (List.drop 0 krow)=krow:=by rw[AA5,AAc (by omega)]
 have hv:Bu vA (As (SI j)) [(22,Aq 26 ls.length)] AE [20,21,22,23,24,25,31,36,34] 27 (fun v os=>v=int 0/\os=[some (.cells [Al 21,Aq 22 ns] 0 false),some (.cells [.bool true,Aq 36 (nk+1)] 0 false),some (.vec [.tok] (row.set s (Aq 31 (ls.length+1))) false),none,some (.abs (.mem Ak LS) false),some (.abs (.mem Ak LK) false),some (.vec Ak (Ge ls (J5 ls o) (q,a,d,(s:Int),o,z)) false),some (.vec DU (krow.take j++((a,Aq 34 1)::krow.drop j)) false),some (.vec Ak [(q,a,d,(s:Int),o,z)] false)]) 900 (gq ns nk row krow LS LK ls ls.length q a d s o z (J5 ls o)):=by
  rw[sJ];(conv=>zeta)
  rw[et];simp only[AAa,AAj,ACo]
  repeat' first
   | refine AD i1 ?_
   | refine AD i2 ?_
   | exact XT h
   | exact hr1
   | exact OO
   | exact h.hr
   | exact h.hh
   | exact pK krow h.rW
   | exact Int.ofNat_lt.2 hj
   | exact ABe _
   | exact qT (by omega)
   | omega
   | exact And.intro rfl rfl
   | exact trivial
   | exact rfl
   | apply And.intro
 refine Aa.mono (Av (lG j) (by kernel_rfl) hv) fun v H hq=>?_
 obtain⟨e,hos⟩:=hq;subst e;refine⟨rfl,.inr ⟨rfl,?_⟩⟩;have hos:[20,21,22,23,24,25,31,36,34].map H.get=_:=hos;simp only[AAn,ABV,AAd,ABF]at hos ⊢;obtain⟨g1,g2,g3,g4,g5,g6,g7,g8,g9⟩:=hos;exact⟨g1,g2,g3,g5,g6,g7,g8,g9⟩
theorem fQ(h:Mz ns nk row krow ls q a d s o z j)(hj:j=nk):Aa cg 27 AE (Q7 ns nk row krow LS LK ls q a d s o z j 0) (gq ns nk row krow LS LK ls ls.length q a d s o z (J5 ls o)):=by
 have hr1:J5 ls o<=ls.length:=(Jz _ _ _ _ (AA4 _)).2;have OP:=h.OP;have PV:=h.PV;have OO:=h.OO;have QR:=h.QR;have i1:=HN h.hs;have i2:Nat.blt s row.length=true:=IZ (by rw[<-OP];exact h.hs);have et:List.take nk (List.drop 0 krow)=krow:=by rw[AA5,AAc (by omega)]
 have e1:(decide ((0:Int)<=Int.ofNat nk)&&Nat.ble (Int.toNat (Int.ofNat nk)) nk&&decide ((0:Int)<=(j:Int))&&Nat.ble (Int.toNat (j:Int)) (Int.toNat (Int.ofNat nk)))=true:=by
  rw[hj];have:Nat.ble nk nk=true:=AAS (AAT _);have e0:decide ((0:Int)<=(nk:Int))=true:=AAY (ABe _);show(decide ((0:Int)<=(nk:Int))&&Nat.ble nk nk&&decide ((0:Int)<=(nk:Int))&&Nat.ble nk nk)=true;rw[this,e0];rfl
 have e2:((j:Int)==Int.ofNat nk)=true:=by rw[hj];exact ACB _
 have e3:(true&&Nat.ble (0+nk) krow.length&&Bn 40 (nk+1))=true:=by
  rw[AAj,OO,AAS (AAT _),qT (by omega)];rfl
 have ed:krow.take j++((a,Aq 34 1)::krow.drop j)=krow++[(a,Aq 34 1)]:=by
  rw[hj,OO,ABh,ADB]
 have hv:Bu cg (As (SE j)) [(22,Aq 26 ls.length)] AE [20,21,22,23,24,25,31,36,34] 27 (fun v os=>v=int 0/\os=[some (.cells [Al 21,Aq 22 ns] 0 false),some (.cells [.bool true,Aq 36 (nk+1)] 0 false),some (.vec [.tok] (row.set s (Aq 31 (ls.length+1))) false),none,some (.abs (.mem Ak LS) false),some (.abs (.mem Ak LK) false),some (.vec Ak (Ge ls (J5 ls o) (q,a,d,(s:Int),o,z)) false),some (.vec DU (krow++[(a,Aq 34 1)]) false),some (.vec Ak [(q,a,d,(s:Int),o,z)] false)]) 900 (gq ns nk row krow LS LK ls ls.length q a d s o z (J5 ls o)):=by
  rw[vr];(conv=>zeta)
  rw[et,e1,e2,e3];simp only[AAa,AAj,ACo]
  repeat' first
   | refine AD i1 ?_
   | refine AD i2 ?_
   | refine AD rfl ?_
   | exact XT h
   | exact hr1
   | exact OO
   | exact h.hr
   | exact h.hh
   | omega
   | exact And.intro rfl rfl
   | exact trivial
   | exact rfl
   | apply And.intro
 refine Aa.mono (Av (fP j) (by kernel_rfl) hv) fun v H hq=>?_
 obtain⟨e,hos⟩:=hq;subst e;refine⟨rfl,.inr ⟨rfl,?_⟩⟩;rw[ed];have hos:[20,21,22,23,24,25,31,36,34].map H.get=_:=hos;simp only[AAn,ABV,AAd,ABF]at hos ⊢;obtain⟨g1,g2,g3,g4,g5,g6,g7,g8,g9⟩:=hos;exact⟨g1,g2,g3,g5,g6,g7,g8,g9⟩
theorem jq{X:Ctx}{pf:Pf}(h:Mz ns nk row krow ls q a d s o z j){Q:Bz}{R:Cy}(ht:ZX X pf [(22,Aq 26 ls.length)] AE [20,21,22,23,24,25,26] l4 (OJ AE 0 0 20) l4 (fun _=>false) lr Q R (fun _=>False) 900 (st AE [Al 20,Gw q a d s o z] (hp (ZL ns nk row krow LS LK ls)))=
  ZX vA (As (SI j)) [(22,Aq 26 ls.length)] AE [20,21,22,23,24,25,26] l4 (OJ AE 0 0 20) l4 (fun _=>false) lr Q R (fun _=>False) 900 (st AE [Al 20,Gw q a d s o z] (hp (ZL ns nk row krow LS LK ls))))(h6:SP ls o z=true->Q (int 6) (zN ns nk row krow LS LK ls))(h0:SP ls o z=false->R (gq ns nk row krow LS LK ls ls.length q a d s o z (J5 ls o))):
 ZX X pf [(22,Aq 26 ls.length)] AE [20,21,22,23,24,25,26] l4 (OJ AE 0 0 20) l4 (fun _=>false) lr Q R (fun _=>False) 900 (st AE [Al 20,Gw q a d s o z] (hp (ZL ns nk row krow LS LK ls))):=by
 rw[ht];have hr1:J5 ls o<=ls.length:=(Jz _ _ _ _ (AA4 _)).2;have OP:=h.OP;have PV:=h.PV;have OO:=h.OO;have QR:=h.QR;have i1:=HN h.hs;have i2:Nat.blt s row.length=true:=IZ (by rw[<-OP];exact h.hs);rw[rL];(conv=>zeta);rw[kH h,kr h]
 unfold SP at h6 h0;generalize hR:J5 ls o=r at hr1 h6 h0;have hR':Ox ls.length (HB ls o)=r:=hR;rw[hR'];simp only[AAa,AAj,ACo];have hs0:0 < ns:=by have:=h.hs;omega
 have hd:decide ((s:Int) < Int.ofNat ns)=true:=AAY (by show(s:Int) < (ns:Int);have:=h.hs;omega);have hf:nk=krow.length/\nk < 1000000/\B0 krow a=j/\GK krow a=false:=⟨OO,by omega,h.hr,h.hh⟩;refine⟨hs0,hs0,AD hd ⟨h.EX,hf,hs0,hf,AD i1 (AD i2 ⟨XT h,⟨by omega,?_⟩⟩)⟩⟩;refine Cz (fun c=>⟨by rw[c],AD i1 (AD i2 ⟨XT h,?_⟩)⟩) fun c=>⟨by rw[c],AD i1 (AD i2 ⟨XT h,?_⟩)⟩
 .rw[c]at h6;exact h6 rfl
 .rw[c,ABw]at h6 h0;exact iE hr1 PV h6 h0
theorem pH(h:Mz ns nk row krow ls q a d s o z j)(hj:j < nk):Aa vA 27 AE (Q7 ns nk row krow LS LK ls q a d s o z j (bif SP ls o z then 6 else 0)) (st AE [Al 20,Gw q a d s o z] (hp (ZL ns nk row krow LS LK ls))):=by
 refine Ti (lG j) (M:=27) (by kernel_rfl) (by decide) (by decide) (Q:=fun v os=>SP ls o z=true/\v=int 6/\os=zN ns nk row krow LS LK ls) (R:=fun c=>SP ls o z=false/\c=gq ns nk row krow LS LK ls ls.length q a d s o z (J5 ls o)) (R2:=fun _=>False) (fun v H hq=>?_) (fun c hc=>?_) (fun c h=>h.elim) 900 _ (jq h rfl (fun e=>⟨e,rfl,rfl⟩) fun e=>⟨e,rfl⟩)
 .obtain⟨e,rfl,hos⟩:=hq;rw[e];exact⟨rfl,.inl ⟨by show(6:Int)≠0;decide,hos⟩⟩
 .obtain⟨e,rfl⟩:=hc;rw[e];exact lP h hj
theorem mi(h:Mz ns nk row krow ls q a d s o z j)(hj:j=nk):Aa cg 27 AE (Q7 ns nk row krow LS LK ls q a d s o z j (bif SP ls o z then 6 else 0)) (st AE [Al 20,Gw q a d s o z] (hp (ZL ns nk row krow LS LK ls))):=by
 refine Ti (fP j) (M:=27) (by kernel_rfl) (by decide) (by decide) (Q:=fun v os=>SP ls o z=true/\v=int 6/\os=zN ns nk row krow LS LK ls) (R:=fun c=>SP ls o z=false/\c=gq ns nk row krow LS LK ls ls.length q a d s o z (J5 ls o)) (R2:=fun _=>False) (fun v H hq=>?_) (fun c hc=>?_) (fun c h=>h.elim) 900 _ (jq h (by rw[uI,rL]) (fun e=>⟨e,rfl,rfl⟩) fun e=>⟨e,rfl⟩)
 .obtain⟨e,rfl,hos⟩:=hq;rw[e];exact⟨rfl,.inl ⟨by show(6:Int)≠0;decide,hos⟩⟩
 .obtain⟨e,rfl⟩:=hc;rw[e];exact fQ h hj
end
theorem Zk{X:Ctx}{f:FuncId}{c:BU}{v:Value}{H:AA}(h:EV X f c=some (v,H)):H=c.H:=by
 obtain⟨⟨fn,t,nn,todo,ds,r,kd,rr⟩,cs,H0⟩:=c;unfold EV at h;simp only at h;split at h
 .cases hb:Nat.beq fn f
  .simp only[hb,AAR]at h;cases h
  .simp only[hb,AAO]at h;split at h
   .cases h;rfl
   .cases h
 .cases h
theorem Aa.XL{X:Ctx}{N:Nat}{D:Nat->Prop}{f:FuncId}{Q Q':H5}{c:BU}(h:Aa X N f Q c)(hq:∀(v:Value)(H:AA)(base:Env)(W0 W:World)(Z:AW),Q v H->(∀b,D b->∃T,Z b=some T)->AH base W0 Z H W->∃v2 H2,Q' v2 H2/\∀v',AF Z v v'->∃μ2,Z.le μ2/\AH base W0 μ2 H2 W/\AF μ2 v2 v'):AZ X N D f Q' c:=by
 intro base W0 hb hDm hok hplan cs0 Z fr cs W hm;obtain⟨c',⟨v,H,h1,h2⟩,μ1,fr1,cs1,W1,s1,m1⟩:=h base W0 hb hok hplan cs0 Z fr cs W hm;have e:=Zk h1;have hH:AH base W0 μ1 H W1:=by rw[e];exact m1.heap
 obtain⟨v2,H2,k1,k2⟩:=hq v H base W0 W1 μ1 h2 (fun b hb=>by obtain⟨T,hT⟩:=hDm b hb;exact⟨T,hH.le b T hT⟩) hH;exact⟨c',v,H,v2,H2,h1,k1,μ1,fr1,cs1,W1,s1,m1,fun v' hv _=>k2 v' hv⟩
theorem eA{l l2:B2}(h:l.map Prod.fst=l2.map Prod.fst)(k:Ag):LX l k=LX l2 k:=by
 funext m
 unfold LX;have hm:(l.map Prod.fst)[m]? = (l2.map Prod.fst)[m]?:=by rw[h]
 rw[AAi,AAi]at hm;rw[AAX,AAX];cases h1:l[m]?<;>cases h2:l2[m]?<;>rw[h1,h2]at hm<;>first | rfl | cases hm | (injection hm with hm;show Op.bytesLess (ByteArray.toList (Prod.fst _)) _=Op.bytesLess (ByteArray.toList (Prod.fst _)) _;simp only[ABZ];rw[hm])
theorem MK{l l2:B2}(h:l.map Prod.fst=l2.map Prod.fst)(k:Ag):B0 l k=B0 l2 k:=by
 have hl:l.length=l2.length:=by simpa using congrArg List.length h
 unfold B0;rw[eA h,hl]
theorem TD{l l2:B2}(h:l.map Prod.fst=l2.map Prod.fst)(k:Ag):GK l k=GK l2 k:=by
 have hl:l.length=l2.length:=by simpa using congrArg List.length h
 unfold GK;rw[MK h,hl];have hm:(l.map Prod.fst)[B0 l2 k]? = (l2.map Prod.fst)[B0 l2 k]?:=by rw[h]
 rw[AAi,AAi]at hm;rw[AAX,AAX];generalize B0 l2 k=r at hm;cases h1:l[r]?<;>cases h2:l2[r]?<;>rw[h1,h2]at hm<;>first | rfl | cases hm | (injection hm with hm;simp only[ABZ];rw[hm])
theorem UX(a:Nat)(K:List (Ag × A6)){j:Nat}{k:Ag}{l:A6}(hj:K[j]? = some (k,l))(v:Value):((CS a K).set j (k,v)).map Prod.fst=(CS a K).map Prod.fst:=by
 apply ACE
 intro i;rw[AAi,AAi,AAe]
 by_cases he:j=i
 .subst he;rw[AAZ rfl,Cm,AAZ (List.getElem?_eq_some_iff.1 hj).1,GP,hj];rfl
 .rw[AAW he]
theorem UN{l:B2}{k:Ag}(h:GK l k=true):B0 l k < l.length:=by
 unfold GK at h;rw[AAQ]at h;exact ABU h.1
theorem WZ(l:B2)(k:Ag):B0 l k<=l.length:=(Jz _ _ _ _ (AA4 _)).2
def Ew(x:B6)(a:Ag):Nat:=B0 (CS 25 x.keys) a
def Fe(x:B6)(a:Ag):Bool:=GK (CS 25 x.keys) a
def MT(x:B6)(a:Ag):A6:=bif Fe x a then(x.keys.getD (Ew x a) (a,[])).2 else []
def Cn(x:B6)(s:Nat):A6:=x.AO.getD s []
def DF(x:B6)(q:Int)(a:Ag)(d:Bool)(s:Nat)(o z:Int):Int:=ag (Cn x s) (MT x a) q a d s o z
def II(x:B6)(q:Int)(a:Ag)(d:Bool)(s:Nat)(o z:Int):List (Ag × A6):=
 bif Fe x a then x.keys.set (Ew x a) ((x.keys.getD (Ew x a) (a,[])).1,Ge (MT x a) (Ox (MT x a).length (FK (MT x a) q s)) (q,a,d,(s:Int),o,z))else x.keys.take (Ew x a)++((a,[(q,a,d,(s:Int),o,z)])::x.keys.drop (Ew x a))
def Ef(x:B6)(q:Int)(a:Ag)(d:Bool)(s:Nat)(o z:Int):B6:=
 bif DF x q a d s o z==0 then⟨II x q a d s o z,x.AO.set s (Ge (Cn x s) (J5 (Cn x s) o) (q,a,d,(s:Int),o,z))⟩else x
structure JM(x:B6)(q:Int)(a:Ag)(d:Bool)(s:Nat)(o z:Int):Prop where
 EX:Mx q a d o z
 hs:s < x.AO.length
 hk:x.keys.length < 80000
 PV:(Cn x s).length < 80000
 mb:(MT x a).length < 80000
theorem u0{laid:DD}{r:Int}{x:B6}{H:AA}(h:H.get 20=some (.abs (.pack (.idx x)) false)):D1 laid 20 1 [true] ⟨int r,[some (.abs (.pack (.idx x)) false)],[]⟩ (int r) H:=by
 refine⟨[],AA3,fun b hb=>(by cases hb),rfl,rfl,fun j b o hj=>(by cases hj),fun j o hj hm ho=>?_⟩;have hj:j=0:=by omega
 subst hj;cases ho
 exact⟨_,rfl,h⟩
section
variable {base:Env}{W0 W:World}{Z:AW}{H:AA}
theorem gx(h:AH base W0 Z H W)(hd:∀z∈[20,21,22,23,24,25],∃T,Z z=some T){x:B6}{s w1:Nat}{l1:A6}(hs:s < x.AO.length)(hw:H.get w1=some (.vec Ak l1 false))(hkw:∃T,Z w1=some T)(hx:25 < w1)(g20:H.get 20=some (.cells [Al 21,Aq 22 x.AO.length] 0 false))(g21:H.get 21=some (.cells [.bool true,Aq 23 x.keys.length] 0 false))(g22:H.get 22=some (.vec [.tok] ((DM 24 x.AO).set s (Aq w1 l1.length)) false))(g23:H.get 23=some (.vec DU (CS 25 x.keys) false))(g24:H.get 24=some (.abs (.mem Ak (F6 x.AO s)) false))(g25:H.get 25=some (.abs (.mem Ak (C7 x.keys)) false)):
 ∃μ2 H2,Z.le μ2/\AH base W0 μ2 H2 W/\H2.get 20=some (.abs (.pack (.idx ⟨x.keys,x.AO.set s l1⟩)) false)/\∀z,25 < z->z≠w1->z≠H.next->H2.get z=H.get z:=by
 have w25:=h.lt hw;obtain⟨μ2,H2,k1,k2,k3,k4,k5,k6,k7⟩:=Sa h hs g24 (hd 24 (by decide)) hw hkw g22;have hI:sj 21 22 23 H.next 25 ⟨x.keys,x.AO.set s l1⟩ H2:=by
  refine⟨by simp;omega,?_,?_,k6,?_,k5,?_⟩
  .rw[k7 20 (by omega) (by decide) (by omega) (by decide),g20,AAk]
  .rw[k7 21 (by omega) (by decide) (by omega) (by decide),g21]
  .rw[k7 23 (by omega) (by decide) (by omega) (by decide),g23]
  .rw[k7 25 (by omega) (by decide) (by omega) (by decide),g25]
 have hd2:∀z∈[20,21,22,23,H.next,25],∃T,μ2 z=some T:=by
  intro z hz
  by_cases e:z=H.next
  .rw[e];exact k3
  .obtain⟨T,hT⟩:=hd z (by simp at hz ⊢;omega);exact⟨T,k1 z T hT⟩
 obtain⟨r1,r2⟩:=UK k2 hI hd2;refine⟨μ2,_,k1,r1,r2,fun z z1 z2 z3=>?_⟩;rw[(Ez (s:= .idx ⟨x.keys,x.AO.set s l1⟩) (H:=H2) hI.nd).GM z (by simp;omega),k7 z z3 (by omega) z2 (by omega)]
theorem RF(h:AH base W0 Z H W){y w1 w3 s j:Nat}(hd:∀z∈[20,21,22,y,24,25,w1,w3],∃T,Z z=some T)(hnd:[20,21,22,y,24,25,w1,w3].Nodup){S:List (A6)}{K:List (Ag × A6)}{LK:Eu}{krow:B2}{k:Ag}{l1 l3:A6}(hs:s < S.length)(hw:H.get w1=some (.vec Ak l1 false))(hw3:H.get w3=some (.vec Ak l3 false))(g20:H.get 20=some (.cells [Al 21,Aq 22 S.length] 0 false))(g21:H.get 21=some (.cells [.bool true,Aq y K.length] 0 false))(g22:H.get 22=some (.vec [.tok] ((DM 24 S).set s (Aq w1 l1.length)) false))(gy:H.get y=some (.vec DU krow false))(g24:H.get 24=some (.abs (.mem Ak (F6 S s)) false))(g25:H.get 25=some (.abs (.mem Ak LK) false))(hK:K[j]? = some (k,l3))(σ:Nat->Nat)(hlen:krow.length=K.length)(Ji:∀(i:Nat)(p q:Ag × _),krow[i]? = some p->K[i]? = some q->p.1=q.1/\(i=j->p.2=Aq w3 l3.length)/\(i≠j->p.2= .slice (some ⟨25,1,some (σ i)⟩) q.2.length cU/\LK[σ i]? = some (some q.2)))(hσ:∀(i i':Nat),i≠j->i'≠j->i < K.length->i' < K.length->σ i=σ i'->i=i'):
 ∃μ2 H2,Z.le μ2/\AH base W0 μ2 H2 W/\H2.get 20=some (.abs (.pack (.idx ⟨K,S.set s l1⟩)) false):=by
 have l20:=h.lt g20;have l21:=h.lt g21;have l22:=h.lt g22;have ly:=h.lt gy;have l24:=h.lt g24;have l25:=h.lt g25;have lw:=h.lt hw;have lw3:=h.lt hw3;simp only[ABS,AAw,AA6,ABr,ACc,AA3,ABF]at hnd;obtain⟨⟨_,_,n203,_,_,n206,n207⟩,⟨_,n213,_,_,n216,n217⟩,⟨n223,_,_,n226,n227⟩,⟨ny24,ny25,nyw1,nyw3⟩,⟨_,n246,n247⟩,⟨n256,n257⟩,n67⟩:=hnd;obtain⟨μ2,H2,k1,k2,k3,k4,k5,k6,k7⟩:=Sa h hs g24 (hd 24 (by simp)) hw (hd w1 (by simp)) g22;have up:∀z∈[20,21,22,y,24,25,w1,w3],∃T,μ2 z=some T:=fun z hz=>by obtain⟨T,hT⟩:=hd z hz;exact⟨T,k1 z T hT⟩
 obtain⟨μ3,H3,m1,m2,m3,m4,m5,m6,m7⟩:=cT k2 (j:=j) (y:=y) (w3:=w3) (krow:=krow) (LK:=LK) (by rw[k7 25 (by omega) (by omega) (by omega) (by omega)];exact g25) (up 25 (by simp)) (by rw[k7 w3 (by omega) (by omega) (by omega) (by omega)];exact hw3) (up w3 (by simp)) (by rw[k7 y (by omega) (by omega) (by omega) (by omega)];exact gy) hK σ hlen Ji hσ;rw[k4]at m3 m5 m6 m7;have hI:sj 21 22 y H.next (H.next+1) ⟨K,S.set s l1⟩ H3:=by
  refine⟨by simp;omega,?_,?_,?_,m6,?_,m5⟩
  .rw[m7 20 (by omega) (by omega) (by omega) (by omega),k7 20 (by omega) (by omega) (by omega) (by omega),g20,AAk]
  .rw[m7 21 (by omega) (by omega) (by omega) (by omega),k7 21 (by omega) (by omega) (by omega) (by omega),g21]
  .rw[m7 22 (by omega) (by omega) (by omega) (by omega),k6]
  .rw[m7 H.next (by omega) (by omega) (by omega) (by omega),k5]
 have hd2:∀z∈[20,21,22,y,H.next,H.next+1],∃T,μ3 z=some T:=by
  intro z hz
  by_cases e:z=H.next+1
  .rw[e];exact m3
  .by_cases e2:z=H.next
   .rw[e2];obtain⟨T,hT⟩:=k3;exact⟨T,m1 _ T hT⟩
   .obtain⟨T,hT⟩:=up z (by simp at hz ⊢;omega);exact⟨T,m1 z T hT⟩
 obtain⟨r1,r2⟩:=UK m2 hI hd2;exact⟨μ3,_,AW.le_trans k1 m1,r1,r2⟩
end
theorem CH.or{P:Program}{laid:DD}{f:FuncId}{F F1 F2:DL}(h1:CH P laid f F1)(h2:CH P laid f F2)(hs:∀args H r,F args H=some r->F1 args H=some r\/F2 args H=some r):CH P laid f F:=
 ⟨h1.1,fun base W0 Z H W args args' v H' hW hH hl ha hF=>(hs _ _ _ hF).elim (fun h=>h1.2 base W0 Z H W args args' v H' hW hH hl ha h) (fun h=>h2.2 base W0 Z H W args args' v H' hW hH hl ha h)⟩
theorem eH{laid:DD}{N:Nat}{mu:List Bool}{G G1 G2:AL->Ay->GT}(hG:∀a o x,(G a o).run=some x->(G1 a o).run=some x\/(G2 a o).run=some x)(args:AL)(H:AA)(r:Value × AA)(h:Ab laid N mu G args H=some r):Ab laid N mu G1 args H=some r\/Ab laid N mu G2 args H=some r:=by
 unfold Ab at h ⊢;generalize DE H N 200 (args.flatMap (Am 4)) []=bs at h ⊢;generalize DZ (EI (Nj laid N bs)) args=A at h ⊢;generalize Vl (Nj laid N bs) H bs=B at h ⊢;cases A with
 | none=>cases h
 | some a=>cases B with
  | none=>cases h
  | some o=>
   simp only at h ⊢;cases hx:(G a o).run with
   | none=>
    rw[hx]at h;simp at h
   | some x=>
    rw[hx]at h;rcases hG a o x hx with h1 | h1
    .left;rw[h1];exact h
    .right;rw[h1];exact h
theorem Wd{P:Program}{laid:DD}{N:Nat}{f:FuncId}{q q1 q2:Gz}(h1:CH P laid f (Ab laid N [true] (Cl N q1)))(h2:CH P laid f (Ab laid N [true] (Cl N q2)))(hs:∀s rest os x,(q s rest os).gt.run=some x->(q1 s rest os).gt.run=some x\/(q2 s rest os).gt.run=some x):CH P laid f (Ab laid N [true] (Cl N q)):=by
 refine CH.or h1 h2 (eH fun a o x hx=>?_);unfold Cl at hx ⊢;split at hx
 .rename_i b rest s ro os;cases hb:Nat.beq b N
  .simp only[hb,AAR,GT.run]at hx;cases hx
  .simp only[hb,AAO]at hx ⊢;exact hs _ _ _ _ hx
 .cases hx
theorem WV{S:List (A6)}{s n N:Nat}(hN:26 < N):∀v∈(DM 24 S).set s (Aq 26 n),Xb N v:=by
 intro v hv;rcases ABn hv with h | h
 .unfold DM at h;obtain⟨p,_,rfl⟩:=List.mem_map.1 h;exact⟨24,1,some p.2,_,_,rfl,by omega⟩
 .exact⟨26,0,some 0,n,_,h,hN⟩
theorem W5{K:List (Ag × A6)}{N:Nat}(hN:25 < N):∀p∈CS 25 K,Xb N p.2:=by
 intro p hp;unfold CS at hp;obtain⟨t,_,rfl⟩:=List.mem_map.1 hp;exact⟨25,1,some t.2,_,_,rfl,hN⟩
theorem fk{K:List (Ag × A6)}{j n N:Nat}{k:Ag}(hN:27 < N):∀p∈(CS 25 K).set j (k,Aq 27 n),Xb N p.2:=by
 intro p hp;rcases ABn hp with h | h
 .exact W5 (by omega) p h
 .rw[h];exact⟨27,0,some 0,n,_,rfl,hN⟩
theorem E8{α:Type}{l:List α}{i:Nat}{v d:α}(h:i < l.length):(l.set i v).getD i d=v:=by
 rw[AAX,AAe,AAZ rfl,AAZ h];rfl
theorem NC{α:Type}{l:List α}{i:Nat}{v:α}(h:l[i]? = some v):l.set i v=l:=by
 obtain⟨q1,q2⟩:=List.getElem?_eq_some_iff.1 h;rw[<-q2,AB1]
section
variable {x:B6}{q:Int}{a:Ag}{d:Bool}{s:Nat}{o z:Int}
theorem Kp(h:s < x.AO.length):x.AO[s]? = some (Cn x s):=by
 unfold Cn;rw[AAX,AAU h];rfl
theorem Xh(hh:Fe x a=true):∃k,x.keys[Ew x a]? = some (k,MT x a)/\(x.keys.getD (Ew x a) (a,[])).1=k:=by
 have hj:=UN hh;rw[Cm]at hj;have hj:Ew x a < x.keys.length:=hj;unfold MT;rw[hh,AAO,AAX,AAU hj];exact⟨_,rfl,rfl⟩
theorem u7(h:JM x q a d s o z)(hh:Fe x a=true){k:Ag}(hk:x.keys[Ew x a]? = some (k,MT x a)):
 LZ x.AO.length x.keys.length (rowP x.AO s (Cn x s).length) ((CS 25 x.keys).set (Ew x a) (k,Aq 27 (MT x a).length)) (Cn x s) (MT x a) q a d s o z (Ew x a):=by
 have hjl:=(List.getElem?_eq_some_iff.1 hk).1;have hf:=UX 25 x.keys hk (Aq 27 (MT x a).length);refine⟨h.EX,WV (by decide),fk (by decide),h.hs,?_,?_,?_,h.hk,?_,?_,hjl,?_,h.PV,h.mb⟩
 .unfold rowP;rw[AAk,Co]
 .exact E8 (by rw[Co];exact h.hs)
 .rw[AAk,Cm]
 .rw[MK hf];rfl
 .rw[TD hf];exact hh
 .rw[E8 (by rw[Cm];exact hjl)]
theorem gI(h:JM x q a d s o z)(hh:Fe x a=false):Mz x.AO.length x.keys.length (rowP x.AO s (Cn x s).length) (CS 25 x.keys) (Cn x s) q a d s o z (Ew x a):=by
 refine⟨h.EX,WV (by decide),W5 (by decide),h.hs,?_,?_,?_,h.hk,rfl,hh,h.PV⟩
 .unfold rowP;rw[AAk,Co]
 .exact E8 (by rw[Co];exact h.hs)
 .rw[Cm]
def YQ(C:B6->Ag->Prop):Gz:=fun s rest os=>match s,rest,os with
 | .idx x,[.agg ⟨[.int .i64 q,.string a,.bool d,.int .i64 s,.int .i64 o,.int .i64 z]⟩],[]=> .ask ((s=(s.toNat:Int)/\JM x q a d s.toNat o z)/\C x a) (.ret ⟨int (DF x q a d s.toNat o z),.idx (Ef x q a d s.toNat o z),[]⟩)
 | _,_,_=> .fail
theorem QM{C:B6->Ag->Prop}{fs:List (FuncId × DL)}(hrun:∀(x:B6)(q:Int)(a:Ag)(d:Bool)(s:Nat)(o z:Int),JM x q a d s o z->C x a->AZ (BY Tryz.prog AG fs) 26 (fun b=>20<=b/\b < 26) AE (fun v H=>v=int (DF x q a d s o z)/\H.get 20=some (.abs (.pack (.idx (Ef x q a d s o z))) false)) (st AE [Al 20,Gw q a d s o z] (hp (UB x))))(hfs:CQ Tryz.prog AG fs):
 CH Tryz.prog AG AE (Ab AG 20 [true] (Cl 20 (YQ C))):=by
 refine Ug hfs (by kernel_rfl) (by kernel_rfl) (n:=A5 AE) (by kernel_rfl) (fun _=>rfl) fun s rest os=>?_
 unfold YQ;split
 .rename_i x q a d s o z;rintro⟨⟨hs,hok⟩,hC⟩;refine⟨VC (by kernel_rfl),fun objs hr=>?_⟩;obtain⟨hl,hO⟩:=Ta x objs hr;refine⟨_,26,hO,VC (by kernel_rfl),?_⟩;have h:=hrun x q a d s.toNat o z hok hC;unfold Gw at h;rw[<-hs]at h;refine AZ.sub (AZ.mono h ?_) fun b hb=>?_
  .rintro v H ⟨e,g⟩;rw[e];exact u0 g
  .rw[hl];refine⟨b - 20,by omega,?_⟩;show b=if b - 20=0 then 20 else 20+(0+1)+(b - 20 - 1)
   split<;>omega
 .exact trivial
end
section
variable {x:B6}{q:Int}{a:Ag}{d:Bool}{s:Nat}{o z:Int}
theorem ez{ls:A6}{o:Int}:J5 ls o<=ls.length:=(Jz _ _ _ _ (AA4 _)).2
theorem bO{lk:A6}{q s:Int}:Ox lk.length (FK lk q s)<=lk.length:=(Jz _ _ _ _ (AA4 _)).2
theorem aM{l:B2}{i:Nat}{p:EK.C DU}(h:l[i]? = some p):p.2∈Ac DU l:=by
 unfold Ac;exact List.mem_flatMap.2 ⟨p,AA1 h,by show p.2∈[Value.string p.1,p.2];simp⟩
theorem Kq{n b:Nat}:b∈Am 4 (Aq b n):=by
 show b∈[b];simp
theorem nI(h:JM x q a d s o z)(hh:Fe x a=true):AZ jU 26 (fun b=>20<=b/\b < 26) AE (fun v H=>v=int (DF x q a d s o z)/\H.get 20=some (.abs (.pack (.idx (Ef x q a d s o z))) false)) (st AE [Al 20,Gw q a d s o z] (hp (UB x))):=by
 obtain⟨k,hk,hk1⟩:=Xh hh;have hs:=h.hs;have hjl:Ew x a < x.keys.length:=(List.getElem?_eq_some_iff.1 hk).1;have hres:DF x q a d s o z=ag (Cn x s) (MT x a) q a d s o z:=rfl;have hrun:=tF (LS:=F6 x.AO s) (LK:=(C7 x.keys).set (Ew x a) none) (u7 h hh hk);refine AZ.Uo (N2:=27) (D2:=fun b=>20<=b/\b < 27) (AZ.Uo (N2:=28) (D2:=fun b=>20<=b/\b < 28) (Aa.XL hrun ?_) (fun base W0 Z W hD hH=>iY hk hH fun z hz=>hD z hz) (VC (by kernel_rfl))) (fun base W0 Z W hD hH=>WK (Kp hs) hH fun z hz=>hD z hz) (VC (by kernel_rfl));intro v H base W0 W Z hQ hD hH;obtain⟨rfl,hq⟩:=hQ;have hset:∀(l3:A6)(w3:Nat)(i:Nat)(p q:Ag × _),((CS 25 x.keys).set (Ew x a) (k,Aq w3 l3.length))[i]? = some p->(x.keys.set (Ew x a) (k,l3))[i]? = some q->p.1=q.1/\(i=Ew x a->p.2=Aq w3 l3.length)/\(i≠Ew x a->p.2= .slice (some ⟨25,1,some (id i)⟩) q.2.length cU/\((C7 x.keys).set (Ew x a) none)[id i]? = some (some q.2)):=by
  intro l3 w3 i p qq h1 h2;rw[AAe]at h1 h2
  by_cases he:Ew x a=i
  .subst he;rw[AAZ rfl,Cm,AAZ hjl]at h1;rw[AAZ rfl,AAZ hjl]at h2;cases h1;cases h2
   exact⟨rfl,fun _=>rfl,fun c=>absurd rfl c⟩
  .rw[AAW he]at h1 h2;rw[GP,h2]at h1;cases h1
   refine⟨rfl,fun c=>absurd c.symm he,fun _=>⟨rfl,?_⟩⟩;show((C7 x.keys).set (Ew x a) none)[i]? = _;rw[AAe,AAW he];unfold C7;rw[AAi,h2];rfl
 rcases hq with⟨hne,hos⟩ | ⟨he,hos⟩
 .have hos:[20,21,22,23,24,25,26,27].map H.get=(l6 _ _ _ _ _ _ _ _).map some:=hos;unfold l6 at hos;simp only[AAn,ABV,AAd,ABF]at hos;obtain⟨g20,g21,g22,g23,g24,g25,g26,g27⟩:=hos;have hsame:x.keys.set (Ew x a) (k,MT x a)=x.keys:=NC hk;obtain⟨μ2,H2,r1,r2,r3⟩:=RF hH (y:=23) (w1:=26) (w3:=27) (s:=s) (j:=Ew x a) (S:=x.AO) (K:=x.keys) (k:=k) (l1:=Cn x s) (l3:=MT x a) (fun z hz=>hD z (by simp at hz;omega)) (by decide) hs g26 g27 g20 g21 g22 g23 g24 g25 hk id (by rw[AAk,Cm]) (by have:=hset (MT x a) 27;rw[hsame]at this;exact this) (fun i i' _ _ _ _ e=>e);refine⟨_,H2,⟨rfl,?_⟩,fun v' hv=>⟨μ2,r1,r2,hv.mono r1⟩⟩;rw[r3];have hb:(DF x q a d s o z==0)=false:=AA7.2 hne;unfold Ef;rw[hb,AAR,NC (Kp hs)]
 .have hos:[20,21,22,23,24,25,32,35].map H.get=(l6 _ _ _ _ _ _ _ _).map some:=hos;unfold l6 at hos;simp only[AAn,ABV,AAd,ABF]at hos;obtain⟨g20,g21,g22,g23,g24,g25,g32,g35⟩:=hos;unfold rowP at g22;rw[ACK]at g22;rw[ACK,E8 (by rw[Cm];exact hjl)]at g23;have hl1:=Mh (ez (ls:=Cn x s) (o:=o)) (q,a,d,(s:Int),o,z);have hl3:=Mh (bO (lk:=MT x a) (q:=q) (s:=s)) (q,a,d,(s:Int),o,z);rw[<-hl1]at g22;rw[<-hl3]at g23;have k22:∃T,Z 32=some T:=Ia.Yk hH (rs:=[22]) (fun r hr=>by simp at hr;subst hr;exact hD 22 (by omega)) (.next (.here (by simp)) g22 (List.mem_flatMap.2 ⟨_,AA1 (i:=s) (by rw[D8,AAe,AAZ rfl,Co,AAZ hs]),Kq⟩))
  have k23:∃T,Z 35=some T:=Ia.Yk hH (rs:=[23]) (fun r hr=>by simp at hr;subst hr;exact hD 23 (by omega)) (.next (.here (by simp)) g23 (List.mem_flatMap.2 ⟨_,aM (i:=Ew x a) (by rw[AAe,AAZ rfl,Cm,AAZ hjl]),Kq⟩))
  obtain⟨μ2,H2,r1,r2,r3⟩:=RF hH (y:=23) (w1:=32) (w3:=35) (s:=s) (j:=Ew x a) (S:=x.AO) (K:=x.keys.set (Ew x a) (k,Ge (MT x a) (Ox (MT x a).length (FK (MT x a) q s)) (q,a,d,(s:Int),o,z))) (k:=k) (fun z hz=>by
   simp only[AAw,AA6,ABr]at hz;rcases hz with rfl | rfl | rfl | rfl | rfl | rfl | rfl | rfl
   .exact hD _ (by omega)
   .exact hD _ (by omega)
   .exact hD _ (by omega)
   .exact hD _ (by omega)
   .exact hD _ (by omega)
   .exact hD _ (by omega)
   .exact k22
   .exact k23) (by decide) hs g32 g35 g20 (by rw[AAk];exact g21) g22 g23 g24 g25 (by rw[AAe,AAZ rfl,AAZ hjl]) id (by rw[AAk,AAk,Cm]) (hset _ _) (fun i i' _ _ _ _ e=>e)
  refine⟨_,H2,⟨rfl,?_⟩,fun v' hv=>⟨μ2,r1,r2,hv.mono r1⟩⟩;rw[r3];have hb:(DF x q a d s o z==0)=true:=ACl.2 he;unfold Ef II;rw[hb,hh,AAO,AAO,hk1]
theorem Z2{X:Ctx}(h:JM x q a d s o z)(hh:Fe x a=false)(hrun:Aa X 27 AE (Q7 x.AO.length x.keys.length (rowP x.AO s (Cn x s).length) (CS 25 x.keys) (F6 x.AO s) (C7 x.keys) (Cn x s) q a d s o z (Ew x a) (bif SP (Cn x s) o z then 6 else 0)) (st AE [Al 20,Gw q a d s o z] (hp (ZL x.AO.length x.keys.length (rowP x.AO s (Cn x s).length) (CS 25 x.keys) (F6 x.AO s) (C7 x.keys) (Cn x s))))):
 AZ X 26 (fun b=>20<=b/\b < 26) AE (fun v H=>v=int (DF x q a d s o z)/\H.get 20=some (.abs (.pack (.idx (Ef x q a d s o z))) false)) (st AE [Al 20,Gw q a d s o z] (hp (UB x))):=by
 have hs:=h.hs;have hj:Ew x a<=x.keys.length:=by have:=WZ (CS 25 x.keys) a;rw[Cm]at this;exact this
 have hL:MT x a=[]:=by unfold MT;rw[hh];rfl
 have hres:DF x q a d s o z=bif SP (Cn x s) o z then 6 else 0:=by
  unfold DF;rw[hL];rfl
 refine AZ.Uo (N2:=27) (D2:=fun b=>20<=b/\b < 27) (Aa.XL hrun ?_) (fun base W0 Z W hD hH=>WK (Kp hs) hH fun z hz=>hD z hz) (VC (by kernel_rfl));intro v H base W0 W Z hQ hD hH;obtain⟨rfl,hq⟩:=hQ;rw[<-hres]at hq;rcases hq with⟨hne,hos⟩ | ⟨he,hos⟩
 .have hos:[20,21,22,23,24,25,26].map H.get=(ZL _ _ _ _ _ _ _).map some:=hos;unfold ZL at hos;simp only[AAn,ABV,AAd,ABF]at hos;obtain⟨g20,g21,g22,g23,g24,g25,g26⟩:=hos;obtain⟨μ2,H2,r1,r2,r3,-⟩:=gx hH (x:=x) (s:=s) (w1:=26) (l1:=Cn x s) (fun z hz=>hD z (by simp at hz;omega)) hs g26 (hD 26 (by omega)) (by decide) g20 g21 g22 g23 g24 g25;refine⟨_,H2,⟨by rw[hres],?_⟩,fun v' hv=>⟨μ2,r1,r2,hv.mono r1⟩⟩;rw[r3];have hb:(DF x q a d s o z==0)=false:=AA7.2 hne;unfold Ef;rw[hb,AAR,NC (Kp hs)]
 .simp only[AAn,ABV,AAd,ABF]at hos;obtain⟨g20,g21,g22,g24,g25,g31,g36,g34⟩:=hos;unfold rowP at g22;rw[ACK]at g22;have hl1:=Mh (ez (ls:=Cn x s) (o:=o)) (q,a,d,(s:Int),o,z);rw[<-hl1]at g22;have k31:∃T,Z 31=some T:=Ia.Yk hH (rs:=[22]) (fun r hr=>by simp at hr;subst hr;exact hD 22 (by omega)) (.next (.here (by simp)) g22 (List.mem_flatMap.2 ⟨_,AA1 (i:=s) (by rw[D8,AAe,AAZ rfl,Co,AAZ hs]),Kq⟩))
  have k36:∃T,Z 36=some T:=Ia.Yk hH (rs:=[21]) (fun r hr=>by simp at hr;subst hr;exact hD 21 (by omega)) (.next (.here (by simp)) g21 (List.mem_flatMap.2 ⟨Aq 36 (x.keys.length+1),by simp,Kq⟩))
  have hjl:((CS 25 x.keys).take (Ew x a)).length=Ew x a:=by rw[AAh,Cm];omega
  have hjl2:(x.keys.take (Ew x a)).length=Ew x a:=by rw[AAh];omega
  have hat:((CS 25 x.keys).take (Ew x a)++((a,Aq 34 1)::(CS 25 x.keys).drop (Ew x a)))[Ew x a]? = some (a,Aq 34 1):=by
   rw[ABG (by rw[hjl];exact AAT _),hjl,ABQ];rfl
  have k34:∃T,Z 34=some T:=Ia.Yk hH (rs:=[36]) (fun r hr=>by simp at hr;subst hr;exact k36) (.next (.here (by simp)) g36 (List.mem_flatMap.2 ⟨_,aM (i:=Ew x a) hat,Kq⟩))
  have hlenK:(x.keys.take (Ew x a)++((a,[(q,a,d,(s:Int),o,z)])::x.keys.drop (Ew x a))).length=x.keys.length+1:=by
   rw[AAf,hjl2,AAz,AAo];omega
  have Ji:∀(i:Nat)(p qq:Ag × _),((CS 25 x.keys).take (Ew x a)++((a,Aq 34 1)::(CS 25 x.keys).drop (Ew x a)))[i]? = some p->(x.keys.take (Ew x a)++((a,[(q,a,d,(s:Int),o,z)])::x.keys.drop (Ew x a)))[i]? = some qq->p.1=qq.1/\(i=Ew x a->p.2=Aq 34 [(q,a,d,(s:Int),o,z)].length)/\(i≠Ew x a->p.2= .slice (some ⟨25,1,some ((fun i=>if i < Ew x a then i else i - 1) i)⟩) qq.2.length cU/\(C7 x.keys)[(fun i=>if i < Ew x a then i else i - 1) i]? = some (some qq.2)):=by
   intro i p qq h1 h2;rcases Nat.lt_trichotomy i (Ew x a)with hi | hi | hi
   .rw[ABD (by rw[hjl];exact hi),ABO,AAZ hi,GP]at h1;rw[ABD (by rw[hjl2];exact hi),ABO,AAZ hi]at h2;rw[h2]at h1;cases h1
    refine⟨rfl,fun c=>absurd c (by omega),fun _=>⟨?_,?_⟩⟩
    .simp only[AAZ hi]
    .simp only[AAZ hi];unfold C7;rw[AAi,h2];rfl
   .subst hi;rw[hat]at h1;rw[ABG (by rw[hjl2];exact AAT _),hjl2,ABQ]at h2;cases h1;cases h2
    exact⟨rfl,fun _=>rfl,fun c=>absurd rfl c⟩
   .obtain⟨t,rfl⟩:∃t,i=Ew x a+1+t:=⟨i - Ew x a - 1,by omega⟩
    rw[ABG (by rw[hjl];omega),hjl,show Ew x a+1+t - Ew x a=t+1 from by omega,ABK,ABP,GP]at h1;rw[ABG (by rw[hjl2];omega),hjl2,show Ew x a+1+t - Ew x a=t+1 from by omega,ABK,ABP]at h2;rw[h2]at h1;cases h1
    have hsig:(fun i=>if i < Ew x a then i else i - 1) (Ew x a+1+t)=Ew x a+t:=by
     show(if Ew x a+1+t < Ew x a then _ else Ew x a+1+t - 1)=_;rw[AAW (by omega)];omega
    refine⟨rfl,fun c=>absurd c (by omega),fun _=>⟨?_,?_⟩⟩
    .rw[hsig]
    .rw[hsig];unfold C7;rw[AAi,h2];rfl
  obtain⟨μ2,H2,r1,r2,r3⟩:=RF hH (y:=36) (w1:=31) (w3:=34) (s:=s) (j:=Ew x a) (S:=x.AO) (K:=x.keys.take (Ew x a)++((a,[(q,a,d,(s:Int),o,z)])::x.keys.drop (Ew x a))) (k:=a) (l3:=[(q,a,d,(s:Int),o,z)]) (fun z hz=>by
   simp only[AAw,AA6,ABr]at hz;rcases hz with rfl | rfl | rfl | rfl | rfl | rfl | rfl | rfl
   .exact hD _ (by omega)
   .exact hD _ (by omega)
   .exact hD _ (by omega)
   .exact k36
   .exact hD _ (by omega)
   .exact hD _ (by omega)
   .exact k31
   .exact k34) (by decide) hs g31 g34 g20 (by rw[hlenK];exact g21) g22 g36 g24 g25 (by rw[ABG (by rw[hjl2];exact AAT _),hjl2,ABQ];rfl) (fun i=>if i < Ew x a then i else i - 1) (by rw[hlenK,AAf,hjl,AAz,AAo,Cm];omega) Ji (fun i i' n1 n2 _ _ e=>by
   have e:(if i < Ew x a then i else i - 1)=(if i' < Ew x a then i' else i' - 1):=e;split at e<;>split at e<;>omega)
  refine⟨_,H2,⟨by rw[hres],?_⟩,fun v' hv=>⟨μ2,r1,r2,hv.mono r1⟩⟩;rw[r3];have hb:(DF x q a d s o z==0)=true:=ACl.2 he;unfold Ef II;rw[hb,hh,AAO,AAR]
end
def tX:AL->Ay->GT:=Cl 20 (YQ fun _ _=>True)
theorem nS:CH Tryz.prog AG AE (Ab AG 20 [true] tX):=by
 have h1:=QM (C:=fun x a=>Fe x a=true) (fs:=C8 (ej 0 true)) (fun x q a d s o z h hh=>nI h hh) (vL 0 true).all;have h2:=QM (C:=fun x a=>Fe x a=false/\Ew x a < x.keys.length) (fs:=C8 (SI 0)) (fun x q a d s o z h hh=>Z2 h hh.1 (pH (gI h hh.1) hh.2)) (rX 0).all;have h3:=QM (C:=fun x a=>Fe x a=false/\Ew x a=x.keys.length) (fs:=C8 (SE 0)) (fun x q a d s o z h hh=>Z2 h hh.1 (mi (gI h hh.1) hh.2)) (lT 0).all;have h23:CH Tryz.prog AG AE (Ab AG 20 [true] (Cl 20 (YQ fun x a=>Fe x a=false))):=by
  refine Wd h2 h3 fun s rest os y hy=>?_
  unfold YQ at hy ⊢;split at hy
  .rename_i x q a d s o z;simp only[PT.gt,GT.run]at hy ⊢;split at hy
   .rename_i hc;have hj:Ew x a<=x.keys.length:=by have:=WZ (CS 25 x.keys) a;rw[Cm]at this;exact this
    rcases AAt (Ew x a) x.keys.length with hl | hl
    .left;rw[AAZ ⟨hc.1,hc.2,hl⟩];exact hy
    .right;rw[AAZ ⟨hc.1,hc.2,Nat.le_antisymm hj hl⟩];exact hy
   .cases hy
  .simp only[PT.gt,GT.run]at hy;cases hy
 refine Wd h1 h23 fun s rest os y hy=>?_
 unfold YQ at hy ⊢;split at hy
 .rename_i x q a d s o z;simp only[PT.gt,GT.run]at hy ⊢;split at hy
  .rename_i hc;cases hh:Fe x a
   .right;rw[AAZ ⟨hc.1,rfl⟩];exact hy
   .left;rw[AAZ ⟨hc.1,rfl⟩];exact hy
  .cases hy
 .simp only[PT.gt,GT.run]at hy;cases hy
def yx:List Gc:=[]
theorem xV:Ct yx:= .nil
abbrev XNo:Ctx:=BY Tryz.prog AG (C8 yx)
section
variable {base:Env}{W0 W:World}{Z:AW}{H:AA}
theorem AH.rM(h:AH base W0 Z H W){g:Nat}{T:BQ}(k:EK)(n:Nat)(hk:k.length≠0)(hm:Z g=some T):
 AH base W0 (Z.ext H.next ⟨T.c,0,0,CO (List.replicate n ⟨T.c,0,0,k.length⟩)⟩) (H.alloc (.abs (.mem k (List.replicate n (some []))) false)) W:=by
 obtain⟨φ,q⟩:=h.abs;have hb:=h.bound g T hm;generalize hT2:(⟨T.c,0,0,CO (List.replicate n ⟨T.c,0,0,k.length⟩)⟩:BQ)=T2;have hTc:T2.c=T.c:=by rw[<-hT2]
 have hTe:T2.e=CO (List.replicate n ⟨T.c,0,0,k.length⟩):=by rw[<-hT2]
 have hle:Z.le (Z.ext H.next T2):=AW.CV T2 (h.fresh _ (AAT _)).2;have get:∀x,(H.alloc (.abs (.mem k (List.replicate n (some []))) false)).get x=if x=H.next then some (.abs (.mem k (List.replicate n (some []))) false)else H.get x:=fun x=>AA.AN ..
 have key:∀b o' T3,(H.alloc (.abs (.mem k (List.replicate n (some []))) false)).get b=some o'->(Z.ext H.next T2) b=some T3->(b=H.next/\o'= .abs (.mem k (List.replicate n (some []))) false/\T3=T2)\/(b≠H.next/\H.get b=some o'/\Z b=some T3):=by
  intro b o' T3 hb hT;rw[get]at hb
  by_cases e:b=H.next
  .rw[AAZ e]at hb;cases hb
   subst e;rw[AW.AY]at hT;cases hT
   exact .inl ⟨rfl,rfl,rfl⟩
  .rw[AAW e]at hb;rw[AW.BB _ _ e]at hT;exact .inr ⟨e,hb,hT⟩
 let φ':Nat->Nat->Prop:=fun b x=>if b=H.next then False else φ b x
 have φn:∀x,φ' H.next x <-> False:=fun x=>by show(if H.next=H.next then _ else _) <-> _;rw[AAZ rfl]
 have φo:∀b,b≠H.next->φ' b=φ b:=fun b hb=>by funext x;show(if b=H.next then _ else _)=_;rw[AAW hb]
 have hvd:(AJ.vec k [] false).void ⟨T.c,0,0,k.length⟩:=⟨rfl,rfl,hk⟩;have one:∀(j:Nat)(M:BQ),(List.replicate n (⟨T.c,0,0,k.length⟩:BQ))[j]? = some M->M=⟨T.c,0,0,k.length⟩:=fun j M h1=>by
  rw[ABt]at h1;split at h1
  .cases h1;rfl
  .cases h1
 have hnil:∀(j:Nat)(l:List (EK.C k)),(List.replicate n (some []):List (Option (List (EK.C k))))[j]? = some (some l)->l=[]:=fun j l h1=>by
  rw[ABt]at h1;split at h1
  .cases h1;rfl
  .cases h1
 refine⟨?_,?_,?_,?_,?_,h.size,h.below,h.out,h.os,⟨φ',?_,?_⟩,AW.le_trans h.le hle,h.grow⟩
 .intro b o' hb' T3 hT;rcases key b o' T3 hb' hT with⟨rfl,rfl,rfl⟩ | ⟨_,hb',hT⟩
  .exact⟨W.heap[T.c],by rw[hTc];exact ABA hb,.abs _ _ _ _⟩
  .obtain⟨p,hp,hp2⟩:=h.obj b o' hb' T3 hT;exact⟨p,hp,hp2.mono hle⟩
 .intro b o' hb' hr T3 hT hv3;rcases key b o' T3 hb' hT with⟨rfl,rfl,rfl⟩ | ⟨_,hb',hT⟩
  .exact absurd trivial hv3
  .exact h.own b o' hb' hr T3 hT hv3
 .intro b1 b2 o3 o4 h1 h2 T3 T4 m1 m2 v1 v2 hcc hrr;rcases key b1 o3 T3 h1 m1 with⟨rfl,rfl,rfl⟩ | ⟨n1,g1,k1⟩<;>rcases key b2 o4 T4 h2 m2 with⟨rfl,rfl,rfl⟩ | ⟨n3,g2,k2⟩
  .rfl
  .exact absurd trivial v1
  .exact absurd trivial v2
  .exact h.inj _ _ o3 o4 g1 g2 T3 T4 k1 k2 v1 v2 hcc hrr
 .intro b hb';have hb':H.next+1<=b:=hb';refine⟨?_,by rw[AW.BB _ _ (by omega)];exact(h.fresh b (by omega)).2⟩;rw[get,AAW (by omega)];exact(h.fresh b (by omega)).1
 .intro b T3 hT
  by_cases e:b=H.next
  .subst e;rw[AW.AY]at hT;cases hT
   rw[hTc];exact hb
  .rw[AW.BB _ _ e]at hT;exact h.bound b T3 hT
 .intro b c ro T3 hb' hT;rcases key b _ T3 hb' hT with⟨rfl,e,rfl⟩ | ⟨n1,hb',hT⟩
  .cases e
   refine⟨⟨_,hTe,by rw[AAr,AAr],by rw[hTc];exact hb,fun j M l h1 h2=>?_,fun i j M N l m h1 h2 h3 h4 h5 _ _=>by
    have e1:=one i M h1;have e2:=hnil _ l h3;subst e1;subst e2
    exact absurd hvd h5,fun x=>⟨fun hx=>((φn x).1 hx).elim,?_⟩⟩,fun _ i hi=>((φn i).1 hi).elim⟩
   .have e1:=one j M h1;subst e1;have:=hnil _ l h2;subst this
    exact⟨W.heap[T.c],ABA hb,.D7 _ _ _ _ rfl rfl hk⟩
   .rintro⟨j,M,l,h1,h2,h3,_⟩;have e1:=one j M h1;subst e1;have:=hnil _ l h2;subst this
    exact absurd hvd h3
  .obtain⟨r1,r2⟩:=q.rep b c ro T3 hb' hT;rw[φo b n1];exact⟨r1.mono hle,r2⟩
 .intro b c ro T3 hb' hT b2 o2 T4 hb2 hT4 hne;rcases key b _ T3 hb' hT with⟨rfl,e,rfl⟩ | ⟨n1,g1,k1⟩
  .exact⟨fun _ hh=>(φn _).1 hh,fun _ i hi=>((φn i).1 hi).elim⟩
  .rw[φo b n1];rcases key b2 o2 T4 hb2 hT4 with⟨rfl,rfl,rfl⟩ | ⟨n3,g2,k2⟩
   .exact⟨fun hv2=>absurd trivial hv2,fun _ i _ hi2=>(φn i).1 hi2⟩
   .rw[φo b2 n3];exact q.C3 b c ro T3 g1 k1 b2 o2 T4 g2 k2 hne
end
def inQ(n:Nat)(Q:Bz):Prop:=Q (.tuple ⟨[Al 22,int 0]⟩) [some (.cells (List.replicate n (.slice none 0 0)) 1 false),some (.cells [.bool true,.slice none 0 0] 0 false),some (.cells [Al 21,.slice (some ⟨20,0,none⟩) n n] 0 false),some (.cells [Al 21,.slice (some ⟨20,0,none⟩) n n] 0 false)]
theorem tw(Q:Bz):∀(n:Nat),1<=n->n<=32->Bu XNo (As yx) [] FT [20,21,22] 20 Q 300 (st FT [int (n:Nat)] (hp []))=((int (n:Nat)=int (n:Nat))/\inQ n Q)
 | 0,h,_=>absurd h (by decide)
 | 1,_,_=>by kernel_rfl
 | 2,_,_=>by kernel_rfl
 | 3,_,_=>by kernel_rfl
 | 4,_,_=>by kernel_rfl
 | 5,_,_=>by kernel_rfl
 | 6,_,_=>by kernel_rfl
 | 7,_,_=>by kernel_rfl
 | 8,_,_=>by kernel_rfl
 | 9,_,_=>by kernel_rfl
 | 10,_,_=>by kernel_rfl
 | 11,_,_=>by kernel_rfl
 | 12,_,_=>by kernel_rfl
 | 13,_,_=>by kernel_rfl
 | 14,_,_=>by kernel_rfl
 | 15,_,_=>by kernel_rfl
 | 16,_,_=>by kernel_rfl
 | 17,_,_=>by kernel_rfl
 | 18,_,_=>by kernel_rfl
 | 19,_,_=>by kernel_rfl
 | 20,_,_=>by kernel_rfl
 | 21,_,_=>by kernel_rfl
 | 22,_,_=>by kernel_rfl
 | 23,_,_=>by kernel_rfl
 | 24,_,_=>by kernel_rfl
 | 25,_,_=>by kernel_rfl
 | 26,_,_=>by kernel_rfl
 | 27,_,_=>by kernel_rfl
 | 28,_,_=>by kernel_rfl
 | 29,_,_=>by kernel_rfl
 | 30,_,_=>by kernel_rfl
 | 31,_,_=>by kernel_rfl
 | 32,_,_=>by kernel_rfl
 | n+33,_,h=>absurd h (by omega)
theorem sA(Q:Bz)(n:Nat)(h1:1<=n)(h2:n<=32)(h:inQ n Q):Bu XNo (As yx) [] FT [20,21,22] 20 Q 300 (st FT [int (n:Nat)] (hp [])):=by
 rw[tw Q n h1 h2];exact⟨rfl,h⟩
end Go.AB
