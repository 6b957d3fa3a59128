/-
  Part of the proof: the machine that runs a program by fixed orders, and that each of its runs is a run of the model; or a run of it in parts. No conditions.
-/
import Derived.Test.YtfnfimeefeigdaaGreatDoorIdRow
import Derived.Test.YtfnfimeefeigdaaGreatDoorIdTell3
import Derived.Test.YtfnfimeefeigdaaGreatDoorLxb
import Derived.Test.YtfnfimeefeigdaaGreatDoorAbr
import Derived.WalkKit
import Derived.Lib.Walk
import Derived.Lib.SliceRun
import Derived.Lib.JoinLaws
import Derived.Lib.AppendZeros
import Derived.Lib.AppendZerosOnto
import Derived.Lib.Overlaps
import Derived.Laws.Externs
import Derived.Laws.IdiomCopy
import Derived.Laws.NewBlocks
import Derived.Shelf.RegionOpenPlain
import Derived.Shelf.Spec.SlicesInsert
import Derived.Test.YtfnfimeefeigdaaGreatDoorChecked
import Derived.Test.YtfnfimeefeigdaaGreatDoorIdDrawn
noncomputable section
set_option maxRecDepth 1000000
namespace Go.AD
def Pj (P:Program) (x:String × DataW Unit):Option (Nat × AL):=
 match x.2 with
 | .iface _ _=>(P.globalNamed x.1).map fun g=>(g,[Bv])
 | _=>match i6 P x with
  | some p=>bif p.2.all flat then some p else none
  | none=>none
theorem YM {P:Program} {w:World} {sp:Nat->Bool} {fuel:Nat} {t:TypeId} {cs:AL} {nm:String} {d:DataW Unit} {ps:List MemPlace} (h:DataW.trod (fun _=>()) P w 0 sp false fuel t cs=some (.iface nm d,ps)):∃te pe,cs=[.iface te pe]:=by
 cases fuel with
 | zero=>cases h
 | succ fuel=>
  unfold DataW.trod at h;split at h
  all_goals first
   | (exact⟨_,_,rfl⟩)
   | (cases h;done)
   | (exfalso;simp[Option.bind_eq_some_iff]at h;done)
   | (exfalso;split at h<;>simp[Option.bind_eq_some_iff]at h;done)
   | (exfalso;split at h<;>(try split at h)<;>(try simp[Option.map_eq_some_iff,Option.bind_eq_some_iff]at h);done)
theorem VH {P:Program} {w:World}:∀(laid:List (String × DataW Unit)) (ps:List MemPlace),DataW.LaidVars P w laid ps->∀(n:Nat) (x:String × DataW Unit) (p:Nat × AL),laid[n]? = some x->Pj P x=some p->∃a t fz,w.heap[p.1]? = some (.cells a t fz)/\O2 p.2 a.toList:=by
 intro laid;induction laid with
 | nil=>intro ps _ n x p hx;simp at hx
 | cons y laid ih=>
  intro ps hl n x p hx h0;obtain⟨nm,d⟩:=y;obtain⟨g,t,cs,fuel,p1,q1,h1,h2,h3,h4,h5,_⟩:=hl;cases n with
  | zero=>
   simp only[tE,C5]at hx;subst hx;simp only[World.var?,h1,VC]at h3;split at h3
   ·rename_i cs' t' fz hh;cases h3
    unfold Pj at h0;simp only at h0;split at h0
    ·rename_i nm2 d2;rw[h1]at h0;cases h0
     obtain⟨te,pe,e⟩:=YM h4;exact⟨_,_,_,hh,by rw[e];exact .iface te pe⟩
    ·split at h0
     ·rename_i p0 hp0;cases hf:p0.2.all flat
      ·rw[hf]at h0;cases h0
      ·rw[hf]at h0;cases h0
       simp only[i6,h1,VC,h2,GS]at hp0;obtain⟨l,hl,rfl⟩:=hp0;exact⟨_,_,_,hh,by rw[nL 12 fuel t _ d p1 l h4 hl];exact .plain _ hf⟩
     ·cases h0
   ·cases h3
  | succ n=>exact ih q1 h5 n x p (by simpa using hx) h0
theorem xK {X:Ctx} {laid:List (String × DataW Unit)} {W:World} (hL:laidMetH X.P laid W) (hp:(laid.all fun x=>x.2.handleName?.isNone)=true) (ns:AW) (hm:(ns.map fun n=>(laid[n]?).bind (Pj X.P))=X.laid.map some) (hnd:(X.laid.map Prod.fst).Nodup):Eb X (JE W) W:=by
 rw[MakeChecks.laidMetH_plain _ _ _ hp]at hL;obtain⟨ps,h1,_⟩:=hL;refine⟨hnd,fun p hp=>?_⟩;have hmem:some p∈ns.map fun n=>(laid[n]?).bind (Pj X.P):=by rw[hm];exact List.mem_map_of_mem hp
 obtain⟨n,_,hn⟩:=List.mem_map.1 hmem;rw[xm]at hn;obtain⟨x,hx,hxp⟩:=hn;obtain⟨a,t,fz,h2,h3⟩:=VH laid ps h1 n x p hx hxp;refine⟨?_,a,t,fz,h2,h3⟩;exact(Array.getElem?_eq_some_iff.1 h2).1
end Go.AD
namespace Go.AD
open Go.ChangeShapes
def VI (P:Program):Nat->TypeId->Option (List (Nat × SK))
 | 0,_=>none
 | f+1,t=>match P.underlying t with
  | some (.int k)=>some [(0,.int k)]
  | some .bool=>some [(0,.bool)]
  | some .string=>some [(0,.str)]
  | some (.struct fields)=>(fields.toList.mapM fun fd=>(VI P f fd.type).map fun l=>l.map fun p=>(fd.offset+p.1,p.2)).map List.flatten
  | some (.array n e)=>((List.range n).mapM fun i=>(VI P f e).map fun l=>l.map fun p=>(i * P.cellsOf e+p.1,p.2)).map List.flatten
  | _=>none
def SK.Ms:(s:SK)->s.C->Prop
 | .int k,n=>(Lit.int k n).wf=true
 | .str,s=>s.size<=maxLen
 | _,_=>True
def EK.Ms:(k:EK)->EK.C k->Prop
 | [],_=>True
 | [s],x=>s.Ms x
 | s::t::r,x=>s.Ms x.1/\EK.Ms (t::r) x.2
section
variable {P:Program} {w:World} {H:Type} {enc:TypeId × Value->H}
theorem mapM_mem {α β:Type} {f:α->Option β}:∀{l:List α} {m:List β},l.mapM f=some m->∀x∈l,∃y,f x=some y
 | [],_,_,x,hx=>by cases hx
 | a::l,m,h,x,hx=>by
  rw[AAi]at h;cases ha:f a with
  | none=>rw[ha]at h;simp at h
  | some y=>
   rw[ha]at h;simp only[AAy,AAe,VC]at h;cases hl:l.mapM f with
   | none=>rw[hl]at h;simp at h
   | some m'=>
    rcases List.mem_cons.1 hx with rfl | hx
    ·exact⟨y,ha⟩
    ·exact mapM_mem hl x hx
theorem mapM_flat {α β:Type} {f:α->Option (List β)}:∀{l:List α} {m:List (List β)},l.mapM f=some m->∀y∈m.flatten,∃x∈l,∃z,f x=some z/\y∈z
 | [],m,h,y,hy=>by
  simp at h;subst h;simp at hy
 | a::l,m,h,y,hy=>by
  rw[AAi]at h;cases ha:f a with
  | none=>rw[ha]at h;simp at h
  | some z=>
   rw[ha]at h;simp only[AAy,AAe,VC]at h;cases hl:l.mapM f with
   | none=>rw[hl]at h;simp at h
   | some m'=>
    rw[hl]at h;simp only[VC,C5]at h;subst h;rw[List.flatten_cons,AAz]at hy;rcases hy with hy | hy
    ·exact⟨a,by simp,z,ha,hy⟩
    ·obtain⟨x,h1,z2,h2,h3⟩:=mapM_flat hl y hy;exact⟨x,by simp[h1],z2,h2,h3⟩
theorem LX {α:Type} {l:List α} {o n i:Nat} {x:α} (h:((l.drop o).take n)[i]? = some x):l[o+i]? = some x:=by
 rw[mM]at h;split at h
 ·rwa [mX]at h
 ·cases h
theorem Rz {α β:Type} {f:α->Option β}:∀{l:List α} {m:List β},l.mapM f=some m->m.length=l.length
 | [],m,h=>by simp at h;subst h;rfl
 | a::l,m,h=>by
  rw[AAi]at h;cases ha:f a with
  | none=>rw[ha]at h;simp at h
  | some y=>
   rw[ha]at h;simp only[AAy,AAe,VC]at h;cases hl:l.mapM f with
   | none=>rw[hl]at h;simp at h
   | some m'=>
    rw[hl]at h;simp only[VC,C5]at h;subst h;simp[Rz hl]
theorem eO {base:Nat} {sp:Nat->Bool} {held:Bool}:∀(f:Nat) (t:TypeId) (K:List (Nat × SK)),VI P f t=some K->∀(fuel:Nat) (cs:AL) (d:DataW H) (ps:List MemPlace),DataW.trod enc P w base sp held fuel t cs=some (d,ps)->
 ∀p∈K,∃x:p.2.C,cs[p.1]? = some (p.2.enc x)/\p.2.Ms x:=by
 intro f;induction f with
 | zero=>intro t K h;cases h
 | succ f ih=>
  intro t K hK fuel cs d ps h p hp;cases fuel with
  | zero=>cases h
  | succ fuel=>
   unfold VI at hK;unfold DataW.trod at h;cases hu:P.underlying t with
   | none=>rw[hu]at hK;cases hK
   | some D=>
    rw[hu]at hK h;cases D with
    | int k=>
     simp only[C5]at hK;subst hK;simp only[Q4]at hp;subst hp;simp only at h;split at h
     all_goals first
      | (split at h;· rename_i hc;obtain⟨rfl,hc2⟩:=hc;simp_all only[TypeDesc.int.injEq,C5];exact⟨_,rfl,hc2⟩;· cases h)
      | (simp_all;done)
      | (simp_all;subst_vars;exact⟨_,rfl,h.1.2⟩)
    | bool=>
     simp only[C5]at hK;subst hK;simp only[Q4]at hp;subst hp;simp only at h;split at h
     all_goals first
      | (simp_all;done)
      | exact⟨_,rfl,trivial⟩
    | string=>
     simp only[C5]at hK;subst hK;simp only[Q4]at hp;subst hp;simp only at h;split at h
     all_goals first
      | (split at h;· rename_i hc;exact⟨_,rfl,hc⟩;· cases h)
      | (simp_all;done)
      | (simp_all;exact⟨_,rfl,h.1⟩)
    | struct fs=>
     simp only[GS]at hK;obtain⟨m,hm,rfl⟩:=hK;obtain⟨fd,hfd,z,hz,hpz⟩:=mapM_flat hm p hp;simp only[GS]at hz;obtain⟨l,hl,rfl⟩:=hz;obtain⟨q,hq,rfl⟩:=List.mem_map.1 hpz;have key:∃xs,(fs.toList.mapM fun f=>DataW.trod enc P w base sp held fuel f.type ((cs.drop f.offset).take (P.cellsOf f.type)))=some xs:=by
      simp only at h
      by_cases hc:cs.length=P.cellsOf t
      ·rw[MB hc,GS]at h;obtain⟨xs,hxs,_⟩:=h;exact⟨xs,hxs⟩
      ·rw[JT hc]at h;cases h
     obtain⟨xs,hxs⟩:=key;obtain⟨⟨d2,ps2⟩,hy⟩:=mapM_mem hxs fd hfd;obtain⟨x,h1,h2⟩:=ih fd.type l hl fuel _ d2 ps2 hy q hq;exact⟨x,LX h1,h2⟩
    | array n e=>
     simp only[GS]at hK;obtain⟨m,hm,rfl⟩:=hK;obtain⟨i,hi,z,hz,hpz⟩:=mapM_flat hm p hp;simp only[GS]at hz;obtain⟨l,hl,rfl⟩:=hz;obtain⟨q,hq,rfl⟩:=List.mem_map.1 hpz;have key:∃xs,((List.range n).mapM fun i=>DataW.trod enc P w base sp held fuel e ((cs.drop (i * P.cellsOf e)).take (P.cellsOf e)))=some xs:=by
      simp only at h
      by_cases hc:cs.length=P.cellsOf t
      ·rw[MB hc,GS]at h;obtain⟨xs,hxs,_⟩:=h;exact⟨xs,hxs⟩
      ·rw[JT hc]at h;cases h
     obtain⟨xs,hxs⟩:=key;obtain⟨⟨d2,ps2⟩,hy⟩:=mapM_mem hxs i hi;obtain⟨x,h1,h2⟩:=ih e l hl fuel _ d2 ps2 hy q hq;exact⟨x,LX h1,h2⟩
    | _=>cases hK
theorem Om:∀(k:EK) (o:Nat) (cs:AL),cs.length=o+k.length->(∀i s,k[i]? = some s->∃x:s.C,cs[o+i]? = some (s.enc x)/\s.Ms x)->∃x:EK.C k,cs.drop o=EK.enc k x/\EK.Ms k x
 | [],o,cs,hl,_=>⟨(),by rw[ur (by simp at hl;omega)];rfl,trivial⟩
 | [s],o,cs,hl,h=>by
  obtain⟨x,h1,h2⟩:=h 0 s rfl;refine⟨x,?_,h2⟩;have hlt:o < cs.length:=by simp at hl;omega
  rw[uP hlt,ur (by simp at hl;omega)];rw[AAN,Jj hlt]at h1;have h1:=AAp h1;rw[h1];rfl
 | s::t::r,o,cs,hl,h=>by
  obtain⟨x,h1,h2⟩:=h 0 s rfl;have hlt:o < cs.length:=by simp at hl;omega
  obtain⟨y,h3,h4⟩:=Om (t::r) (o+1) cs (by simp at hl ⊢;omega) (fun i s' hi=>by
   obtain⟨z,e1,e2⟩:=h (i+1) s' (by simpa using hi);exact⟨z,by rw[show o+1+i=o+(i+1)from by omega];exact e1,e2⟩)
  refine⟨(x,y),?_,h2,h4⟩;rw[uP hlt,h3];rw[AAN,Jj hlt]at h1;have h1:=AAp h1;rw[h1];rfl
def NT (P:Program) (t:TypeId) (k:EK):Bool:=
 Nat.beq (P.cellsOf t) k.length&& !(Nat.beq k.length 0)&&(match VI P 8 t with | some K=>decide (K.map Prod.fst=List.range k.length)&&decide (K.map Prod.snd=k) | none=>false)
theorem dy {base:Nat} {sp:Nat->Bool} {held:Bool} {t:TypeId} {k:EK} (hk:NT P t k=true) {fuel:Nat} {cs:AL} {d:DataW H} {ps:List MemPlace} (hl:cs.length=P.cellsOf t)
 (h:DataW.trod enc P w base sp held fuel t cs=some (d,ps)):∃x:EK.C k,cs=EK.enc k x/\EK.Ms k x:=by
 unfold NT at hk;simp only[Dg]at hk;obtain⟨⟨h1,_⟩,h2⟩:=hk;have h1:=DN h1;split at h2
 ·rename_i K hK;simp only[Dg,TL]at h2;obtain⟨h2,h3⟩:=h2;obtain⟨x,e1,e2⟩:=Om k 0 cs (by rw[hl,h1,RP]) (fun i s hi=>by
   have hi1:(K.map Prod.snd)[i]? = some s:=by rw[h3];exact hi
   rw[Sy,GS]at hi1;obtain⟨p,hp,rfl⟩:=hi1;have hi2:(K.map Prod.fst)[i]? = some p.1:=by rw[Sy,hp];rfl
   rw[h2]at hi2;have hlt:i < k.length:=by
    rcases U1 i k.length with q | q
    ·exact q
    ·rw[T6 q]at hi;cases hi
   rw[AAf hlt]at hi2;have hi2:=AAp hi2;obtain⟨x,e1,e2⟩:=eO 8 t K hK fuel cs d ps h p (cA hp);exact⟨x,by rw[RP,hi2];exact e1,e2⟩)
  exact⟨x,by rw[<-e1,bl],e2⟩
 ·cases h2
theorem TH {α:Type} {Q:Nat->α->Prop}:∀(n:Nat),(∀i,i < n->∃x,Q i x)->∃l:List α,l.length=n/\∀i x,l[i]? = some x->Q i x
 | 0,_=>⟨[],rfl,fun i x h=>by cases h⟩
 | n+1,h=>by
  obtain⟨l,h1,h2⟩:=TH n (fun i hi=>h i (by omega));obtain⟨x,hx⟩:=h n (by omega);refine⟨l++[x],by simp[h1],fun i y hi=>?_⟩;rw[List.getElem?_append]at hi;split at hi
  ·exact h2 i y hi
  ·rename_i hlt;have:i - l.length=0:=by
    rcases ABr (i - l.length)with q | q
    ·exact q
    ·rw[T6 (by simp;omega)]at hi;cases hi
   rw[this]at hi;have hi:x=y:=by simpa using hi
   subst hi;have:i=n:=by omega
   rw[this];exact hx
theorem trod_slice {t e:TypeId} {k:EK} (hu:P.underlying t=some (.slice e)) (hk:NT P e k=true) {held:Bool} {fuel:Nat} {v:Value} {d:DataW H} {ps:List MemPlace}
 (h:DataW.trod enc P w 0 (fun _=>true) held fuel t [v]=some (d,ps)):
 v= .slice none 0 0∨∃a len cap,v= .slice (some a) len cap/\len<=cap/\cap<=maxLen/\∃l:List (EK.C k),l.length=cap/\∀i x,l[i]? = some x->(w.cells? 0 (a.add (i * k.length)) k.length=some (EK.enc k x)/\EK.Ms k x):=by
 cases fuel with
 | zero=>cases h
 | succ fuel=>
  have hcl:P.cellsOf e=k.length:=by
   unfold NT at hk;simp only[Dg]at hk;exact DN hk.1.1
  unfold DataW.trod at h;rw[hu]at h;simp only at h;split at h
  all_goals try (simp_all;done)
  ·rename_i _ e2 a len cap he hcs;have he:e=e2:=by simpa using he
   subst he;right
   have hv:v= .slice (some a) len cap:=by
    simpa using hcs
   subst hv;split at h
   ·rename_i hc;obtain⟨_,hc1,hc2⟩:=hc;refine⟨a,len,cap,rfl,hc1,hc2,?_⟩;rw[xm]at h;obtain⟨elems,he1,h⟩:=h;simp only[AAR,GS]at h;obtain⟨rest,he2,_⟩:=h;refine TH cap fun i hi=>?_
    have hel:∃y,((w.cells? 0 (a.add (i * P.cellsOf e)) (P.cellsOf e)).bind (DataW.trod enc P w 0 (fun _=>true) held fuel e))=some y:=by
     rcases U1 i len with q | q
     ·exact mapM_mem he1 i (by simpa using q)
     ·obtain⟨y,hy⟩:=mapM_mem he2 (i - len) (by simp;omega);exact⟨y,by rw[show len+(i - len)=i from by omega]at hy;exact hy⟩
    obtain⟨⟨d2,ps2⟩,hy⟩:=hel;rw[xm]at hy;obtain⟨cs,hcs,hy⟩:=hy;have hlen:cs.length=P.cellsOf e:=by
     unfold World.cells? at hcs;rw[MB (ay _)]at hcs;exact(Rz hcs).trans (by simp)
    obtain⟨x,e1,e2⟩:=dy hk hlen hy;rw[hcl]at hcs;exact⟨x,by rw[hcs,e1],e2⟩
   ·cases h
end
end Go.AD
namespace Go.AD
section
variable {base:Env} {W0:World} {μ:Ae} {H:AA} {W:World}
theorem AJ.Ky (h:AJ base W0 μ H W) (hall:∀b p,H.get b=some p->p.ro=true/\p.isAbs=false) {T:Bc} {o:AP} {o':Obj} (hro:o.ro=true) (hna:o.isAbs=false) (hT:W.heap[T.c]? = some o') (ho:CZ μ T o o'):
 AJ base W0 (μ.ext H.next T) (H.alloc o) W:=by
 have hle:μ.le (μ.ext H.next T):=Ae.Cc T (h.fresh _ (GO _)).2;have hlt:T.c < W.heap.size:=by
  rcases U1 T.c W.heap.size with q | q
  ·exact q
  ·rw[ud q]at hT;cases hT
 have key:∀b p,(H.alloc o).get b=some p->(b=H.next/\p=o)∨(b≠H.next/\H.get b=some p):=by
  intro b p e;rw[AA.AM]at e
  by_cases q:b=H.next
  ·rw[MB q]at e;cases e;exact .inl ⟨q,rfl⟩
  ·rw[JT q]at e;exact .inr ⟨q,e⟩
 have kro:∀b p,(H.alloc o).get b=some p->p.ro=true/\p.isAbs=false:=by
  intro b p e;rcases key b p e with⟨_,rfl⟩ | ⟨_,e⟩
  ·exact⟨hro,hna⟩
  ·exact hall b p e
 refine⟨?_,?_,?_,?_,?_,h.size,h.below,h.out,h.os,?_,Ae.le_trans h.le hle,h.grow⟩
 ·intro b p hb T' hT';rcases key b p hb with⟨rfl,rfl⟩ | ⟨hne,hb⟩
  ·rw[Ae.Af]at hT';cases hT'
   exact⟨o',hT,ho.mono hle⟩
  ·rw[Ae.BI _ _ hne]at hT';obtain⟨o2,h2,h3⟩:=h.obj b p hb T' hT';exact⟨o2,h2,h3.mono hle⟩
 ·intro b p hb hr T' hT';rw[(kro b p hb).1]at hr;cases hr
 ·intro b1 b2 o1 o2 h1 h2 T1 T2 m1 m2 _ _ hc hrr;rcases hrr with hr | hr
  ·rw[(kro b1 o1 h1).1]at hr;cases hr
  ·rw[(kro b2 o2 h2).1]at hr;cases hr
 ·intro b hb;have hb:H.next+1<=b:=hb;refine⟨?_,by rw[Ae.BI _ _ (by omega)];exact(h.fresh b (by omega)).2⟩;rw[AA.AM,JT (by omega)];exact(h.fresh b (by omega)).1
 ·intro b T' hT'
  by_cases e:b=H.next
  ·subst e;rw[Ae.Af]at hT';cases hT';exact hlt
  ·rw[Ae.BI _ _ e]at hT';exact h.bound b T' hT'
 ·refine⟨fun _ _=>False,fun b a ro T' h1 h2=>?_,fun b a ro T' h1 h2=>?_⟩
  ·have:=(kro b _ h1).2;cases this
  ·have:=(kro b _ h1).2;cases this
end
theorem GM (n b:Nat):(⟨.leaf,n⟩:AA).get b=none:=by
 cases h:(⟨.leaf,n⟩:AA).get b with
 | none=>rfl
 | some o=>
  exfalso;have:(Tr.leaf:Tr AP).get b=some o:=h;unfold Tr.get at this;cases hp:Hj.of b<;>rw[hp]at this<;>cases this
theorem Tb {k:EK} {c:AL}:∀(l:List (EK.C k)) (o:Nat),(∀i x,l[i]? = some x->∀j v,(EK.enc k x)[j]? = some v->c[o+(i * k.length+j)]? = some v)->(c.drop o).take (l.length * k.length)=Ag k l
 | [],o,_=>by simp[Ag]
 | x::l,o,h=>by
  have ih:=Tb l (o+k.length) (fun i y hi j v hj=>by
   have:=h (i+1) y (by simpa using hi) j v hj;rw[AAT]at this;rw[show o+k.length+(i * k.length+j)=o+(i * k.length+k.length+j)from by omega];exact this)
  rw[DP,bT,AAT,ABi (l.length * k.length),List.take_add,AAh,ih]
  congr 1
  apply AAs
  intro j;rcases U1 j k.length with q | q
  ·rw[mM,MB q,mX];have hl:j < (EK.enc k x).length:=by rw[EK.Cd];exact q
   rw[Jj hl];have:=h 0 x rfl j _ (Jj hl);rw[ABp,RP]at this;exact this
  ·rw[mM,JT (by omega),T6 (by rw[EK.Cd];exact q)]
theorem gL {w:World} {b o n:Nat} {cs:AL} {c:BR} {t:TypeId} {fz:Nat × Nat} (hb:w.heap[b]? = some (.cells c t fz)) (h:w.cells? 0 ⟨b,o,none⟩ n=some cs):∀(j:Nat) v,cs[j]? = some v->c.toList[o+j]? = some v:=by
 unfold World.cells? at h;rw[MB (ay _)]at h;intro j v hj;have hl:=Rz h;have hjn:j < n:=by
  rcases U1 j n with q | q
  ·exact q
  ·rw[T6 (by rw[hl];simpa using q)]at hj;cases hj
 have key:∀(l:AW) (m:AL),l.mapM (fun i=>w.cell? ((⟨b,o,none⟩:Addr).add i))=some m->∀(i a:Nat) v,l[i]? = some a->m[i]? = some v->w.cell? ((⟨b,o,none⟩:Addr).add a)=some v:=by
  intro l;induction l with
  | nil=>intro m _ i a v hi;cases hi
  | cons x r ih=>
   intro m hm i a v hi hv;rw[AAi]at hm;cases hx:w.cell? ((⟨b,o,none⟩:Addr).add x)with
   | none=>rw[hx]at hm;simp at hm
   | some y=>
    rw[hx]at hm;simp only[AAy,AAe,VC]at hm;cases hr:r.mapM (fun i=>w.cell? ((⟨b,o,none⟩:Addr).add i))with
    | none=>rw[hr]at hm;simp at hm
    | some m'=>
     rw[hr]at hm;simp only[VC,C5]at hm;subst hm;cases i with
     | zero=>
      have h1:x=a:=by simpa using hi
      have h2:y=v:=by simpa using hv
      subst h1 h2;exact hx
     | succ i=>exact ih m' hr i a v (by simpa using hi) (by simpa using hv)
 have:=key _ _ h j j v (by rw[AAf hjn]) hj;unfold World.cell? at this;have e:((⟨b,o,none⟩:Addr).add j)=⟨b,o+j,none⟩:=by
  unfold Addr.add
  by_cases hj:j=0
  ·subst hj;simp
  ·simp[hj]
 rw[e]at this;simp only[hb]at this;simpa using this
theorem HA:∀(k:EK),k.all SK.plain=true->∀x:EK.C k,(EK.enc k x).all flat=true
 | [],_,_=>rfl
 | [s],h,x=>by
  cases s with
  | int k=>rfl
  | bool=>rfl
  | str=>rfl
  | tok=>simp[SK.plain]at h
 | s::t::r,h,x=>by
  rw[lf,Dg]at h;simp only[EK.enc,lf,Dg];refine⟨?_,HA (t::r) h.2 x.2⟩;cases s with
  | int k=>rfl
  | bool=>rfl
  | str=>rfl
  | tok=>simp[SK.plain]at h
theorem Xq (μ:Ae) (k:EK) (hk:k.all SK.plain=true) (l:List (EK.C k)):Am μ (Ag k l) (Ag k l):=by
 refine Hy _ ?_;unfold Ag;rw[AAW];intro v hv;obtain⟨x,_,hx⟩:=List.mem_flatMap.1 hv;exact List.all_eq_true.1 (HA k hk x) v hx
theorem Wd {X:Ctx} {W:World} {μ:Ae} {H:AA} (s3:AJ (JE W) W μ H W) (s2:Bj X μ) (hall:∀b p,H.get b=some p->p.ro=true/\p.isAbs=false) {P:Program} {HH:Type} {enc:TypeId × Value->HH} {t e:TypeId} {k:EK} (hu:P.underlying t=some (.slice e))
 (hk:NT P e k=true) (hpl:k.all SK.plain=true) {r:Go.Reach} {bs:Nat} {v:Value} (hok:Cell.okWide P W r bs t v) {held:Bool} {fuel:Nat} {d:DataW HH} {ps:List MemPlace} (htr:DataW.trod enc P W 0 (fun _=>true) held fuel t [v]=some (d,ps)):
 v= .slice none 0 0∨∃(l:List (EK.C k)) (T:Bc),(∀x∈l,EK.Ms k x)/\l.length<=maxLen/\AJ (JE W) W (μ.ext H.next T) (H.alloc (.vec k l true)) W/\Bj X (μ.ext H.next T)/\
  AH (μ.ext H.next T) (.slice (some ⟨H.next,0,some 0⟩) l.length Aa) v:=by
 rcases trod_slice hu hk htr with rfl | ⟨a,len,cap,rfl,h1,h2,l,h3,h4⟩
 ·exact .inl rfl
 ·right
  have hk0:0 < k.length:=by
   unfold NT at hk;simp only[Dg]at hk;rcases ABr k.length with q | q
   ·rw[q]at hk;simp at hk
   ·exact q
  have hsh:∃b o c t' fz,a=⟨b,o,none⟩/\W.heap[b]? = some (.cells c t' fz):=by
   unfold Cell.okWide Cell.ok at hok;rw[hu]at hok
   simp only at hok;obtain⟨_,_,h3⟩:=hok;obtain⟨_,hs,row,cells,hsh,_⟩:=h3;obtain⟨b,o,sp⟩:=a;simp only at hs;subst hs;unfold World.shape? at hsh;simp only at hsh;split at hsh
   ·rename_i c t' fz hb;exact⟨b,o,c,t',fz,rfl,hb⟩
   ·cases hsh
  obtain⟨b,o,c,t',⟨f1,f2⟩,rfl,hb⟩:=hsh;have hcell:∀i x,l[i]? = some x->∀j v,(EK.enc k x)[j]? = some v->c.toList[o+(i * k.length+j)]? = some v:=by
   intro i x hi j v hj;obtain⟨q1,_⟩:=h4 i x hi;have e:((⟨b,o,none⟩:Addr).add (i * k.length))=⟨b,o+i * k.length,none⟩:=by
    unfold Addr.add
    by_cases hz:i * k.length=0
    ·simp[hz]
    ·simp[hz]
   rw[e]at q1;have:=gL hb q1 j v hj;rw[jV]at this;exact this
  have hok2:∀x∈l.take len,EK.Ms k x:=fun x hx=>by
   obtain⟨i,hi⟩:=List.getElem?_of_mem (AAa hx);exact(h4 i x hi).2
  have hlen:(l.take len).length=len:=by rw[Rg];omega
  have hmax:maxLen=9223372036854775807:=by unfold maxLen;rfl
  by_cases hc0:cap=0
  ·have hl0:len=0:=by omega
   subst hc0 hl0;have hl:l=[]:=Ss h3;subst hl;refine⟨[],⟨b,0,c.size,k.length⟩,by simp,ay _,?_,s2.mono (Ae.Cc _ (s3.fresh H.next (GO _)).2),?_⟩
   ·refine s3.Ky hall rfl rfl hb (.vec _ k [] true _ (.cells _ _ _ _ c t' f1 f2 rfl ?_ (by simp) (fun q=>by cases q)));simp[Ag];exact .nil
   ·exact .DW H.next 0 Aa ⟨b,0,c.size,k.length⟩ (some (b,o)) (Ae.Af _ _ _) (.inr ⟨GO _,me _⟩)
  ·have hsz:o+cap * k.length<=c.size:=by
    have hx:cap - 1 < l.length:=by omega
    have hj:k.length - 1 < (EK.enc k l[cap - 1]).length:=by rw[EK.Cd];omega
    have:=hcell (cap - 1) l[cap - 1] (Jj hx) (k.length - 1) _ (Jj hj);have hlt:o+((cap - 1) * k.length+(k.length - 1)) < c.toList.length:=by
     rcases U1 (o+((cap - 1) * k.length+(k.length - 1))) c.toList.length with q | q
     ·exact q
     ·rw[T6 q]at this;cases this
    have e:cap * k.length=(cap - 1) * k.length+k.length:=by
     obtain⟨m,rfl⟩:∃m,cap=m+1:=⟨cap - 1,by omega⟩
     rw[AAT];rfl
    simp at hlt;omega
   refine⟨l.take len,⟨b,o,c.size - o,k.length⟩,hok2,by rw[hlen];omega,?_,s2.mono (Ae.Cc _ (s3.fresh H.next (GO _)).2),?_⟩
   ·refine s3.Ky hall rfl rfl hb (.vec _ k _ true _ (.cells _ _ _ _ c t' f1 f2 rfl ?_ (by show c.size=o+(c.size - o);omega) (fun q=>by cases q)));have e:=Tb (c:=c.toList) (l.take len) o (fun i x hi j v hj=>hcell i x (by
     rw[mM]at hi;split at hi
     ·exact hi
     ·cases hi) j v hj)
    rw[BH];show Am _ _ ((c.toList.drop o).take _);rw[e];exact Xq _ k hpl (l.take len)
   ·rw[hlen];refine .Bk H.next 0 len Aa cap o ⟨b,o,c.size - o,k.length⟩ (Ae.Af _ _ _) (.inr ⟨GO _,by omega,h1,?_,.inr (by omega)⟩) (.inl (by simp)) ?_
    ·show 0 * k.length+cap * k.length<=c.size - o;omega
    ·show c.size - o≠0;have:=ABL (show 0 < cap by omega) hk0;omega
theorem MS {X:Ctx} {W:World} (hok:ET X (JE W) W) (hplan:HJ X) {f:FuncId} {n N:Nat} (he:entry X.P f=some (n,A9 X.P f [])) {μ:Ae} {H:AA} (hH:AJ (JE W) W μ H W) (hl:Bj X μ)
 {args:AL} {args':BR} (ha:Am μ args args'.toList) (hn:args.length<=n) {v:Value} (hrun:AX X N f (fun v' _=>v'=v) (Em f (CM 0 args .leaf) n (A9 X.P f []) H)) (hv:flat v=true):
 Calls X.P f args' W fun e W'=>e= .returned v/\Fk W W':=by
 intro cs;obtain⟨c',⟨v2,Hf,hd,rfl⟩,μ1,fr1,cs1,W1,st,m1⟩:=hrun (JE W) W (fun b T h=>by cases h) hok hplan cs _ _ [] W (Kp hH hl he ha hn);obtain⟨rfl,hf,v',e1,e2,e3⟩:=KR m1 hd;have hs':Steps X.P (lone (Frame.enter X.P f args' .normal) cs W) (lone fr1 cs W1):=by simpa using st
 refine⟨.returned v',W1,fr1,⟨?_,e2.nE⟩,hs',hf,e1⟩;rw[LN hv e3]
theorem bq {X:Ctx} {W:World} (hL:Eb X (JE W) W) {n:Nat} (hn:(X.laid.all fun p=>Nat.blt p.1 n)=true) {P:Program} {H:Type} {enc:TypeId × Value->H} {t e:TypeId} {k:EK} (hu:P.underlying t=some (.slice e))
 (hk:NT P e k=true) (hpl:k.all SK.plain=true) {r:Go.Reach} {bs:Nat} {v:Value} (hok:Cell.okWide P W r bs t v) {held:Bool} {fuel:Nat} {d:DataW H} {ps:List MemPlace} (htr:DataW.trod enc P W 0 (fun _=>true) held fuel t [v]=some (d,ps)):
 ∃μ,AJ (JE W) W μ ⟨.leaf,n⟩ W/\Bj X μ/\(v= .slice none 0 0∨∃(l:List (EK.C k)) (T:Bc),(∀x∈l,EK.Ms k x)/\l.length<=maxLen/\AJ (JE W) W (μ.ext n T) ((⟨.leaf,n⟩:AA).alloc (.vec k l true)) W/\Bj X (μ.ext n T)/\
  AH (μ.ext n T) (.slice (some ⟨n,0,some 0⟩) l.length Aa) v):=by
 obtain⟨s1,s2⟩:=QD (X:=X) hL (none_le _) (fun _ hi=>hi) (n:=n) (Rt hn);have s3:AJ (JE W) W (Gb X.laid) ⟨.leaf,n⟩ W:=s1.sub (H':=⟨.leaf,n⟩) (fun b o hb=>by rw[GM]at hb;cases hb) (by rw[Hu]);exact⟨Gb X.laid,s3,s2,Wd s3 s2 (fun b p hb=>by rw[GM]at hb;cases hb) hu hk hpl hok htr⟩
theorem iu {X:Ctx} {W:World} {μ:Ae} {H:AA} (s3:AJ (JE W) W μ H W) (s2:Bj X μ) (hall:∀b p,H.get b=some p->p.ro=true/\p.isAbs=false) (hm:∃g Tg,μ g=some Tg) {P:Program} {HH:Type} {enc:TypeId × Value->HH} {t e:TypeId} {k:EK} (hu:P.underlying t=some (.slice e))
 (hk:NT P e k=true) (hpl:k.all SK.plain=true) {r:Go.Reach} {bs:Nat} {v:Value} (hok:Cell.okWide P W r bs t v) {held:Bool} {fuel:Nat} {d:DataW HH} {ps:List MemPlace} (htr:DataW.trod enc P W 0 (fun _=>true) held fuel t [v]=some (d,ps)):
 ∃(l:List (EK.C k)) (T:Bc),(∀x∈l,EK.Ms k x)/\l.length<=maxLen/\AJ (JE W) W (μ.ext H.next T) (H.alloc (.vec k l true)) W/\Bj X (μ.ext H.next T)/\
  AH (μ.ext H.next T) (.slice (some ⟨H.next,0,some 0⟩) l.length Aa) v:=by
 rcases Wd s3 s2 hall hu hk hpl hok htr with rfl | h
 ·obtain⟨g,Tg,hg⟩:=hm;have hk0:k.length≠0:=by
   unfold NT at hk;simp only[Dg]at hk;intro q;rw[q]at hk;simp at hk
  obtain⟨h1,h2⟩:=s3.FN hg hk0 true;exact⟨[],_,fun x hx=>(by cases hx),ay _,h1,s2.mono h2.le,.DW H.next 0 Aa _ none (Ae.Af _ _ _) (.inr ⟨GO _,me _⟩)⟩
 ·exact h
end Go.AD
namespace Go.AD
open Go.Proofs
abbrev EV:EK:=[.str,.tok]
def Dw (l:List (EK.C EV)):List (EK.C EV):=List.map (fun x=>(x.1,Bv)) l
theorem Ho (l:List (EK.C EV)):(Dw l).length=l.length:=oB ..
theorem S3 {μ ν:Ae}:∀(l:List (EK.C EV)) (l':AL),Am μ (Ag EV l) l'->Am ν (Ag EV (Dw l)) l'
 | [],l',h=>by cases h;exact .nil
 | x::r,l',h=>by
  have h:Am μ (Value.string x.1::x.2::Ag EV r) l':=h;cases h with
  | cons h1 h2=>cases h2 with
   | cons h3 h4=>
    cases h1
    exact .cons (.string _) (.cons (.Bv _) (S3 r _ h4))
theorem dF (l:List (EK.C EV)):(Ag EV (Dw l)).length=(Ag EV l).length:=by
 rw[BH,BH,Ho]
theorem Xs {μ ν:Ae} {T:Bc} {l:List (EK.C EV)} {ro ro2:Bool} {o':Obj} (h:CZ μ T (.vec EV l ro) o') (hr2:ro2=true):CZ ν T (.vec EV (Dw l) ro2) o':=by
 subst hr2;cases h with
 | vec _ _ _ _ hc=>
  cases hc with
  | cells _ _ _ c t lo hi he hc hr hf=>
   refine .vec T EV _ true _ (.cells T _ _ true c t lo hi he ?_ hr (fun e=>by cases e));rw[dF];exact S3 l _ hc
 | Du _ _ _ he hr hk=>exact .Du T EV true _ he hr hk
theorem V5 {base:Env} {W0 W:World} {μ:Ae} {H:AA} (hW:Eb (bQ Tryz.prog AI) base W0) (hH:AJ base W0 μ H W) {fs:List (FuncId × DO)} (hfs:CO Tryz.prog AI fs) {f:FuncId} (he:entry Tryz.prog f=some (BD f,A9 Tryz.prog f []))
 {y c:Nat} {l:List (EK.C EV)} {ro:Bool} {p2 o2:AP} {Ty Tc:Bc} (hy:H.get y=some (.vec EV l ro)) (hTy:μ y=some Ty) (hc:H.get c=some p2) (hTc:μ c=some Tc) (hro:o2.ro=true) (hna:o2.isAbs=false)
 (h2:∀(ν:Ae) (o':Obj),ν 20=some Ty->CZ μ Tc p2 o'->CZ ν Tc o2 o') {argsc:AL} {args':BR} (ha:∀ν:Ae,ν 20=some Ty->ν 21=some Tc->Am ν argsc args'.toList) (hn:argsc.length<=BD f) {v:Value} (hv:flat v=true)
 (hrun:AX (Bp Tryz.prog AI fs) 22 f (fun v' _=>v'=v) (st f argsc (hp [.vec EV (Dw l) true,o2]))):Calls Tryz.prog f args' W fun e W'=>∃v' μ',e= .returned v'/\AJ base W0 μ' H W'/\AH μ' v v'/\Ap μ H μ' H:=by
 have hW1:Eb (Bp Tryz.prog AI fs) (JE W) W:=by
  have:=hW.carry hH;unfold Eb at this ⊢;exact this
 obtain⟨s1,s2⟩:=QD (X:=Bp Tryz.prog AI fs) hW1 (none_le _) (fun _ hi=>hi) (n:=20) (Rt (by kernel_rfl));have s3:AJ (JE W) W (Gb (Bp Tryz.prog AI fs).laid) ⟨.leaf,20⟩ W:=s1.sub (H':=⟨.leaf,20⟩) (fun b o hb=>by rw[GM]at hb;cases hb) (by rw[Hu]);obtain⟨oy,hoy,hry⟩:=hH.obj y _ hy Ty hTy;obtain⟨oc,hoc,hrc⟩:=hH.obj c _ hc Tc hTc;have all0:∀b p,(⟨.leaf,20⟩:AA).get b=some p->p.ro=true/\p.isAbs=false:=fun b p hb=>by rw[GM]at hb;cases hb
 have s4:=s3.Ky all0 (o:= .vec EV (Dw l) true) (T:=Ty) rfl rfl hoy (Xs hry rfl);have hle1:(Gb (Bp Tryz.prog AI fs).laid).le ((Gb (Bp Tryz.prog AI fs).laid).ext 20 Ty):=Ae.Cc _ (s3.fresh 20 (GO _)).2;have all1:∀b p,((⟨.leaf,20⟩:AA).alloc (.vec EV (Dw l) true)).get b=some p->p.ro=true/\p.isAbs=false:=fun b p hb=>by
  rw[AA.AM]at hb;split at hb
  ·cases hb;exact⟨rfl,rfl⟩
  ·rw[GM]at hb;cases hb
 have h20:((Gb (Bp Tryz.prog AI fs).laid).ext 20 Ty) 20=some Ty:=Ae.Af _ _ _;have s5:=s4.Ky all1 (o:=o2) (T:=Tc) hro hna hoc (h2 _ _ h20 hrc);have hle2:((Gb (Bp Tryz.prog AI fs).laid).ext 20 Ty).le (((Gb (Bp Tryz.prog AI fs).laid).ext 20 Ty).ext 21 Tc):=Ae.Cc _ (s4.fresh 21 (GO _)).2;have e:((⟨.leaf,20⟩:AA).alloc (.vec EV (Dw l) true)).alloc o2=hp [.vec EV (Dw l) true,o2]:=by kernel_rfl
 have s6:AJ (JE W) W (((Gb (Bp Tryz.prog AI fs).laid).ext 20 Ty).ext 21 Tc) (hp [.vec EV (Dw l) true,o2]) W:=by rw[<-e];exact s5
 have hlaid:Bj (Bp Tryz.prog AI fs) (((Gb (Bp Tryz.prog AI fs).laid).ext 20 Ty).ext 21 Tc):=(s2.mono hle1).mono hle2;refine(MS (hfs.IN _ _ hW1) (Hl (by kernel_rfl) rfl) he s6 hlaid (ha _ (hle2 _ _ h20) (Ae.Af _ _ _)) hn hrun hv).mono ?_;rintro e W' ⟨rfl,k1,k2,k3,k4⟩;exact⟨v,μ,rfl,hH.carry k3 k4 k2 k1,D5 hv,Ap.refl _ _⟩
theorem AH.Rs {μ ν:Ae} {b b2 o n c:Nat} {s:Option Nat} {T:Bc} {w:Value} (h:AH μ (.slice (some ⟨b,o,s⟩) n c) w) (hb:μ b=some T) (h2:ν b2=some T):AH ν (.slice (some ⟨b2,o,s⟩) n c) w:=by
 cases h with
 | slice _ _ _ _ cap' o' T' h hc ho=>rw[hb]at h;cases h;exact .slice b2 o n c cap' o' T h2 hc ho
 | Bk _ _ _ _ cap' o' T' h hc ho hr=>rw[hb]at h;cases h;exact .Bk b2 _ n c cap' o' T h2 hc ho hr
 | DW _ _ _ T' a h hc=>rw[hb]at h;cases h;exact .DW b2 _ c T a h2 hc
 | Cl _ _ _ _ cap' o' T' M h hm hc ho hr=>rw[hb]at h;cases h;exact .Cl b2 _ n c cap' o' T M h2 hm hc ho hr
 | F9 _ _ _ T' a h hc=>rw[hb]at h;cases h;exact .F9 b2 _ c T a h2 hc
theorem AH.Ya {μ ν:Ae} {b b2:Nat} {T:Bc} {w:Value} (h:AH μ (.pointer (some ⟨b,0,none⟩)) w) (hb:μ b=some T) (h2:ν b2=some T):AH ν (.pointer (some ⟨b2,0,none⟩)) w:=by
 cases h with
 | ptr _ _ T' h=>rw[hb]at h;cases h;exact .ptr b2 0 T h2
def N0 (l:List (EK.C EV)) (k:As) (m:Nat):Bool:=Op.bytesLess (ByteArray.toList (l.getD m (EK.BL EV)).1) (ByteArray.toList k)
def DC (l:List (EK.C EV)) (k:As):Nat:=Xc (N0 l k) l.length 0 l.length
def IL (l:List (EK.C EV)) (k:As):Bool:=decide (DC l k < l.length)&&(ByteArray.toList (l.getD (DC l k) (EK.BL EV)).1==ByteArray.toList k)
theorem St (l:List (EK.C EV)) (k:As):N0 (Dw l) k=N0 l k:=by
 funext m
 unfold N0 Dw;rw[Kd,Sy,Kd];cases l[m]?<;>rfl
theorem P8 (l:List (EK.C EV)) (k:As):DC (Dw l) k=DC l k:=by
 unfold DC;rw[St,Ho]
theorem cn (l:List (EK.C EV)) (k:As):IL (Dw l) k=IL l k:=by
 unfold IL;rw[P8,Ho]
 congr 2
 unfold Dw;rw[Kd,Sy,Kd];cases l[DC l k]?<;>rfl
def oI (b:Nat):Value:= .func (.func Bf) ⟨[]⟩ ⟨[.pointer (some ⟨b,0,none⟩)]⟩
def QH:DO:=fun args H=>match args with
 | [.slice (some ⟨y,0,some 0⟩) n 18446744073709551616,.func (.func g) ⟨[]⟩ ⟨[.pointer (some ⟨c,0,none⟩)]⟩]=>match H.get y,H.get c with
  | some (.vec [.str,.tok] l _),some (.cells [.string k] 0 _)=>bif Nat.beq n l.length&&Nat.blt n 1000000&&Nat.beq g Bf then some (int (DC l k),H)else none
  | _,_=>none
 | _=>none
def YU:HL:=fun args H K=>match args with
 | [.slice (some ⟨y,0,some 0⟩) n 18446744073709551616,.func (.func g) ⟨[]⟩ ⟨[.pointer (some ⟨c,0,none⟩)]⟩]=>match H.get y,H.get c with
  | some (.vec [.str,.tok] l _),some (.cells [.string k] 0 _)=>bif Nat.beq g Bf then((n=l.length/\n < 1000000)/\K (int (DC l k)) H)else False
  | _,_=>False
 | _=>False
theorem dN:Xf QH YU:=fun X f hX args H K h=>by
 unfold YU at h;split at h
 ·rename_i y n g c;split at h
  ·rename_i l ro k ro2 hy hc;cases hg:Nat.beq g Bf
   ·simp only[hg,EB]at h
   ·simp only[hg,C8]at h;obtain⟨⟨rfl,hb⟩,hK⟩:=h;refine⟨_,_,?_,hK⟩;unfold CP;simp only[hX];unfold QH;simp only[hy,hc,hg,VX,show Nat.blt l.length 1000000=true from Ez hb,yV,C8]
  ·exact h.elim
 ·exact h.elim
abbrev Cq:=List (EK.C EV)
def ik (l:Cq) (n:Nat) (k:As) (i j:Int):BT:=
 ⟨⟨AQ,EZ [(0,Ao 20 n),(1,oI 21),(5,int i),(6,int j)],BD AQ,[.code (A9 Tryz.prog AQ [1,1,0,0,0]),.inLoop (A9 Tryz.prog AQ [1,1,0,0,0]),.inBlock 0,.code (A9 Tryz.prog AQ [1,1,1])],[],false,.normal,none⟩,[],hp [.vec EV l true,.cells [.string k] 0 true]⟩
def sB:Stop:=⟨AQ,0,3,22,[20,21],[0,1,5,6]⟩
theorem ui (l:Cq) (n:Nat) (k:As) (Q:Bm) (R:Bz):Iy X0 Cz [] AQ [] sB [] Q R 100 (st AQ [Ao 20 n,oI 21] (hp [.vec EV l true,.cells [.string k] 0 true]))=(
 (R (ik (YJ (Fw 22 []) l) n k 0 (Int.ofNat n)))):=by kernel_rfl
theorem w5 (l:Cq) (n:Nat) (k:As) (i j:Int) (Q:Bm) (R:Bz):Iy X0 Cz [] AQ [] sB [] Q R 200 (ik l n k i j)=(
 let c:=YJ (Fw 22 []) l;let a:=Int.tdiv (IntKind.wrap .i64 (i+j)) 2;let b:=IntKind.wrap .i64 a;(bif decide (i < j)then(bif decide (0<=IntKind.wrap .i64 a)&&Nat.blt b.toNat n then(bif Nat.blt (0+b.toNat) l.length then(bif !Op.bytesLess (ByteArray.toList (List.getD l (0+b.toNat) (EK.BL EV)).1) (ByteArray.toList k)then(R (ik c n k i b))else(R (ik c n k (IntKind.wrap .i64 (IntKind.wrap .i64 a+1)) j)))else False)else False)else(Q (int i) []))):=by kernel_rfl
def xV:List GA:=[(AQ,QH,YU)]
abbrev yr:Ctx:=Bp Tryz.prog AI (Cv xV)
theorem mm (l:Cq) (n:Nat) (k:As) (Q:Bm):CU yr (Ax xV) [] A2 [] 22 Q 200 (st A2 [At 21,.string k] (hp [.vec EV l true,.cells [.bool true,Ao 20 n] 0 true]))=(
 let j:=((Ao 20 n):Value)=(Ao 20 n);let i:=((.string k):Value)=(.string k);let h:=((.bool false):Value)=(.bool false);let a:=((DC l k):Int);let m:=((int (a)):Value)=(int (a));let f:Prop:=Q (.tuple ⟨[(int (a)),(.bool false)]⟩) [];let e:Value:= .pointer (some ⟨20,0,(some (0+a.toNat))⟩);let c:=List.getD l (0+a.toNat) (EK.BL EV);let g:=((.string c.1):Value)=(.string c.1);let d:=((.bool (ByteArray.toList c.1==ByteArray.toList k)):Value);let b:=(e:Value)=e;(n=l.length/\n < 1000000)/\(bif decide (a < Int.ofNat n)then(bif decide (0<=a)&&Nat.blt a.toNat n then(bif Nat.blt (0+a.toNat) l.length then(bif ByteArray.toList c.1==ByteArray.toList k then(((.bool true):Value)=(.bool true))/\(d=(.bool true))/\i/\(bif Nat.blt (0+a.toNat) l.length then g/\b/\(bif decide (0<=a)&&Nat.blt a.toNat n then b/\m/\j/\(Q (.tuple ⟨[(int (a)),(.bool true)]⟩) [])else False)else False)else h/\(d=(.bool false))/\i/\(bif Nat.blt (0+a.toNat) l.length then g/\b/\(bif decide (0<=a)&&Nat.blt a.toNat n then b/\m/\j/\f else False)else False))else False)else False)else h/\f)):=by kernel_rfl
theorem RC (ρ:Rn) (l:Cq):YJ ρ (Dw l)=Dw l:=by
 unfold YJ Dw;rw[AAw];exact AAQ fun _ _=>rfl
def rN (n len:Nat) (i j:Int) (p:Nat->Bool) (R:Int->Int->Prop) (E:Prop):Prop:=
 bif decide (i < j)then(bif decide (0<=IntKind.wrap .i64 (Int.tdiv (IntKind.wrap .i64 (i+j)) 2))&&Nat.blt (Int.toNat (IntKind.wrap .i64 (Int.tdiv (IntKind.wrap .i64 (i+j)) 2))) n then
  (bif Nat.blt (0+Int.toNat (IntKind.wrap .i64 (Int.tdiv (IntKind.wrap .i64 (i+j)) 2))) len then(bif !p (0+Int.toNat (IntKind.wrap .i64 (Int.tdiv (IntKind.wrap .i64 (i+j)) 2)))then R i (IntKind.wrap .i64 (Int.tdiv (IntKind.wrap .i64 (i+j)) 2))
   else R (IntKind.wrap .i64 (IntKind.wrap .i64 (Int.tdiv (IntKind.wrap .i64 (i+j)) 2)+1)) j)else False)else False)else E
theorem aF {n len i j:Nat} {p:Nat->Bool} {R:Int->Int->Prop} {E:Prop} (hl:n<=len) (hn:n < 1000000) (h:i < j) (hj:j<=n) (h1:p ((i+j) / 2)=true->R (((i+j) / 2+1:Nat):Int) j) (h2:p ((i+j) / 2)=false->R (i:Int) (((i+j) / 2:Nat):Int)):rN n len (i:Int) (j:Int) p R E:=by
 unfold rN;have e0:IntKind.wrap .i64 (Int.tdiv (IntKind.wrap .i64 ((i:Int)+(j:Int))) 2)=(((i+j) / 2:Nat):Int):=by
  rw[wrap64 (x:=(i:Int)+(j:Int)) (by omega) (by omega)];have:Int.tdiv ((i:Int)+(j:Int)) 2=(((i+j) / 2:Nat):Int):=by rw[Int.tdiv_eq_ediv_of_nonneg (by omega)];omega
  rw[this,wrap64 (by omega) (by omega)]
 have e:IntKind.wrap .i64 ((((i+j) / 2:Nat):Int)+1)=(((i+j) / 2+1:Nat):Int):=by rw[wrap64 (by omega) (by omega)];omega
 rw[e0,e,MG,RP];refine AB (KE (by omega)) (AB ?_ (AB (Ez (by omega)) (BX (fun c=>h2 ?_) fun c=>h1 ?_)))
 ·rw[KE (show(0:Int)<=(((i+j) / 2:Nat):Int) by omega),show Nat.blt ((i+j) / 2) n=true from Ez (by omega)];rfl
 ·simpa using c
 ·simpa using c
theorem YB (l:Cq) (n:Nat) (k:As) (i j:Int) (Q:Bm) (R:Bz):Iy X0 Cz [] AQ [] sB [] Q R 200 (ik l n k i j)=rN n l.length i j (N0 l k) (fun i j=>R (ik (YJ (Fw 22 []) l) n k i j)) (Q (int i) []):=by rw[w5];rfl
theorem nJ {l:Cq} {k:As} (hn:l.length < 1000000):∀(q i j:Nat),j - i<=q->i<=j->j<=l.length->AX X0 22 AQ (fun v _=>v=int (Xc (N0 l k) q i j:Nat)) (ik (Dw l) l.length k i j):=by
 have fin:∀i:Nat,AX X0 22 AQ (fun v _=>v=int (i:Nat)) (ik (Dw l) l.length k i i):=fun i=>by
  refine Bq (CB _) [] [] sB [] (by kernel_rfl) (by decide) (fun v _=>v=int (i:Nat)) (fun _=>False) (fun v H h=>h) (fun c h=>h.elim) (n:=200) ?_;rw[YB];exact AZ (MC (by omega)) rfl
 intro q;induction q with
 | zero=>
  intro i j hq hi hj;obtain rfl:i=j:=by omega
  exact fin i
 | succ q ih=>
  intro i j hq hi hj;unfold Xc
  by_cases h:i < j
  ·rw[MB h];have hlen:(Dw l).length=l.length:=Ho l;have hlt:N0 (Dw l) k=N0 l k:=St l k;cases hc:N0 l k ((i+j) / 2)
   ·refine Bq (CB _) [] [] sB [] (by kernel_rfl) (by decide) (fun _ _=>False) (fun c=>c=ik (Dw l) l.length k i ((i+j) / 2:Nat)) (fun v H h=>h.elim) (fun c h=>by rw[h];exact ih i ((i+j) / 2) (by omega) (by omega) (by omega)) (n:=200) ?_;rw[YB];(conv=>zeta);rw[RC,hlen,hlt]
    exact aF (GO _) hn h hj (fun e=>by rw[hc]at e;cases e) fun _=>rfl
   ·refine Bq (CB _) [] [] sB [] (by kernel_rfl) (by decide) (fun _ _=>False) (fun c=>c=ik (Dw l) l.length k ((i+j) / 2+1:Nat) j) (fun v H h=>h.elim) (fun c h=>by rw[h];exact ih ((i+j) / 2+1) j (by omega) (by omega) hj) (n:=200) ?_;rw[YB];(conv=>zeta);rw[RC,hlen,hlt]
    exact aF (GO _) hn h hj (fun _=>rfl) fun e=>by rw[hc]at e;cases e
  ·rw[JT h];obtain rfl:i=j:=by omega
   exact fin i
theorem Y0:CY Tryz.prog AI AQ QH:=by
 refine⟨⟨_,_,show entry Tryz.prog AQ=some (BD AQ,A9 Tryz.prog AQ []) by kernel_rfl⟩,?_⟩;intro base W0 μ H W args args' v H' hW hH hl ha hF;unfold QH at hF;split at hF
 ·rename_i y n g c;split at hF
  ·rename_i l ro k ro2 hy hc;cases hb:(Nat.beq n l.length&&Nat.blt n 1000000&&Nat.beq g Bf)
   ·simp only[hb,EB]at hF;cases hF
   ·simp only[hb,C8,C5,Si]at hF;obtain⟨rfl,rfl⟩:=hF;simp only[Dg]at hb;obtain⟨⟨b1,b2⟩,b3⟩:=hb;have b1:=DN b1;have b3:=DN b3;have b2:n < 1000000:=BE b2;subst b1 b3;generalize hqq:args'.toList=qq at ha;cases ha with
    | cons h1 ha=>cases ha with
     | cons h2 ha=>
      cases ha
      obtain⟨Ty,hTy⟩:=K7 h1;obtain⟨fn2,xs2,ys2,rfl,hf2,hx2,hy2⟩:=AH.CL.1 h2;have hy2':Am μ [Value.pointer (some ⟨c,0,none⟩)] ys2.toList:=hy2;generalize hyy:ys2.toList=yy at hy2';cases hy2' with
      | cons h3 h4=>
       cases h4
       obtain⟨Tc,hTc⟩:=K1 h3;refine V5 hW hH (CO.nil _ _) (by kernel_rfl) hy hTy hc hTc (o2:= .cells [.string k] 0 true) rfl rfl (fun ν o' _ ho=>?_) (argsc:=[Ao 20 l.length,oI 21]) (fun ν e1 e2=>?_) (BE (by kernel_rfl)) rfl ?_
       ·cases ho with
        | cells _ _ _ cc t lo hi he hcc hr hf=>
         refine .cells Tc _ 0 true cc t lo hi he ?_ hr (fun e=>by cases e);generalize List.take [Value.string k].length (List.drop Tc.d cc.toList)=r at hcc;cases hcc with
         | cons g1 g2=>cases g1;cases g2;exact .cons (.string _) .nil
       ·rw[hqq];refine .cons (h1.Rs hTy e1) (.cons (AH.CL.2 ⟨_,_,_,rfl,?_,(by have hx3:Am μ [] xs2.toList:=hx2;show Am ν [] xs2.toList;generalize xs2.toList=z at hx3;cases hx3;exact .nil),?_⟩) .nil)
        ·cases hf2;exact .func _
        ·rw[hyy];exact .cons (h3.Ya hTc e2) .nil
       ·rw[show DC l k=Xc (N0 l k) l.length 0 l.length from rfl];refine Bq (CB _) [] [] sB [] (by kernel_rfl) (by decide) (fun _ _=>False) (fun c=>c=ik (Dw l) l.length k 0 l.length) (fun v H h=>h.elim) (fun c h=>by rw[h];exact nJ b2 l.length 0 l.length (by omega) (ay _) (GO _)) (n:=100) (c:=st AQ [Ao 20 l.length,oI 21] (hp [.vec EV (Dw l) true,.cells [.string k] 0 true])) ?_;rw[ui,RC];exact rfl
  ·cases hF
 ·cases hF
theorem vX:Ci xV:= .other Y0 dN .nil
def Sr (l:Cq) (k:As):Value:= .tuple ⟨[int (DC l k:Nat),.bool (IL l k)]⟩
theorem kU {l:Cq} {k:As} (hn:l.length < 1000000):CU yr (Ax xV) [] A2 [] 22 (fun v _=>v=Sr l k) 200 (st A2 [At 21,.string k] (hp [.vec EV l true,.cells [.bool true,Ao 20 l.length] 0 true])):=by
 rw[mm];(conv=>zeta)
 unfold Sr IL;have hr:DC l k<=l.length:=(Jz _ _ _ _ (ay _)).2;generalize DC l k=r at hr;rw[MG,RP];refine⟨⟨rfl,hn⟩,?_⟩
 by_cases h:r < l.length
 ·have nb:Nat.blt r l.length=true:=Ez h;have c1:(decide ((0:Int)<=(r:Int))&&Nat.blt r l.length)=true:=by rw[nb,KE (show(0:Int)<=(r:Int) by omega)];rfl
  rw[KE h,AAM];refine AB (KE (by show(r:Int) < (l.length:Int);omega)) (AB c1 (AB nb (BX (fun c=>?_) fun c=>?_)))
  ·rw[c];exact⟨rfl,rfl,rfl,AB nb ⟨rfl,rfl,AB c1 ⟨rfl,rfl,rfl,rfl⟩⟩⟩
  ·rw[c];exact⟨rfl,rfl,rfl,AB nb ⟨rfl,rfl,AB c1 ⟨rfl,rfl,rfl,rfl⟩⟩⟩
 ·rw[MC h];exact AZ (MC (by show ¬(r:Int) < (l.length:Int);omega)) ⟨rfl,rfl⟩
theorem Zg (l:Cq) (k:As):Sr (Dw l) k=Sr l k:=by
 unfold Sr;rw[P8,cn]
def TV:DO:=fun args H=>match args with
 | [.pointer (some ⟨c,0,none⟩),.string k]=>match H.get c with
  | some (.cells [.bool true,.slice (some ⟨y,0,some 0⟩) n 18446744073709551616] 0 _)=>match H.get y with
   | some (.vec [.str,.tok] l _)=>bif Nat.beq n l.length&&Nat.blt n 1000000 then some (Sr l k,H)else none
   | _=>none
  | _=>none
 | _=>none
def aZ (i:Nat) (b:Bool):HL:=fun args H K=>match args with
 | [.pointer (some ⟨c,0,none⟩),.string k]=>match H.get c with
  | some (.cells [.bool true,.slice (some ⟨y,0,some 0⟩) n 18446744073709551616] 0 _)=>match H.get y with
   | some (.vec [.str,.tok] l _)=>(n=l.length/\n < 1000000/\DC l k=i/\IL l k=b)/\K (.tuple ⟨[int (i:Nat),.bool b]⟩) H
   | _=>False
  | _=>False
 | _=>False
theorem Wm (i:Nat) (b:Bool):Xf TV (aZ i b):=fun X f hX args H K h=>by
 unfold aZ at h;split at h
 ·rename_i c k;split at h
  ·rename_i y n ro hc;split at h
   ·rename_i l ro2 hy;obtain⟨⟨rfl,hb,rfl,rfl⟩,hK⟩:=h;refine⟨_,_,?_,hK⟩;unfold CP;simp only[hX];unfold TV;simp only[hc,hy,VX,show Nat.blt l.length 1000000=true from Ez hb,yV,C8];rfl
   ·exact h.elim
  ·exact h.elim
 ·exact h.elim
theorem TZ:CY Tryz.prog AI A2 TV:=by
 refine⟨⟨_,_,show entry Tryz.prog A2=some (BD A2,A9 Tryz.prog A2 []) by kernel_rfl⟩,?_⟩;intro base W0 μ H W args args' v H' hW hH hl ha hF;unfold TV at hF;split at hF
 ·rename_i c k;split at hF
  ·rename_i y n ro hc;split at hF
   ·rename_i l ro2 hy;cases hb:(Nat.beq n l.length&&Nat.blt n 1000000)
    ·simp only[hb,EB]at hF;cases hF
    ·simp only[hb,C8,C5,Si]at hF;obtain⟨rfl,rfl⟩:=hF;simp only[Dg]at hb;obtain⟨b1,b2⟩:=hb;have b1:=DN b1;have b2:n < 1000000:=BE b2;subst b1;generalize hqq:args'.toList=qq at ha;cases ha with
     | cons h1 ha=>cases ha with
      | cons h2 ha=>
       cases ha
       obtain⟨Tc,hTc⟩:=K1 h1;have hy0:∃Ty,μ y=some Ty:=by
        obtain⟨oc,_,hrc⟩:=hH.obj c _ hc Tc hTc;cases hrc with
        | cells _ _ _ cc t lo hi he hcc hr hf=>
         generalize List.take [Value.bool true,Value.slice (some ⟨y,0,some 0⟩) l.length 18446744073709551616].length (List.drop Tc.d cc.toList)=r at hcc;cases hcc with
         | cons g1 g2=>cases g2 with
          | cons g3 g4=>exact K7 g3
       obtain⟨Ty,hTy⟩:=hy0;refine V5 hW hH vX.all (by kernel_rfl) hy hTy hc hTc (o2:= .cells [.bool true,Ao 20 l.length] 0 true) rfl rfl (fun ν o' e1 ho=>?_) (argsc:=[At 21,.string k]) (fun ν e1 e2=>?_) (BE (by kernel_rfl)) rfl ?_
       ·cases ho with
        | cells _ _ _ cc t lo hi he hcc hr hf=>
         refine .cells Tc _ 0 true cc t lo hi he ?_ hr (fun e=>by cases e);have hcc:Am μ [Value.bool true,Value.slice (some ⟨y,0,some 0⟩) l.length 18446744073709551616] (List.take 2 (List.drop Tc.d cc.toList)):=hcc;show Am ν [Value.bool true,Ao 20 l.length] (List.take 2 (List.drop Tc.d cc.toList));generalize List.take 2 (List.drop Tc.d cc.toList)=r at hcc;cases hcc with
         | cons g1 g2=>cases g2 with
          | cons g3 g4=>
           cases g4
           cases g1
           exact .cons (.bool _) (.cons (g3.Rs hTy e1) .nil)
       ·rw[hqq];cases h2
        exact .cons (h1.Ya hTc e2) (.cons (.string _) .nil)
       ·rw[<-Zg,<-Ho l];exact(BK vX.pf (by kernel_rfl) (kU (l:=Dw l) (k:=k) (by rw[Ho];exact b2)))
   ·cases hF
  ·cases hF
 ·cases hF
end Go.AD
namespace Go.AD
section
variable {base:Env} {W0:World} {μ:Ae} {H:AA} {W:World}
theorem Vz (μ:Ae):Ae.le (fun _=>none) μ:=fun b x e=>by cases e
def AA.X3 (H:AA) (a j:Nat) (k:EK) (L:List (Option (List (EK.C k)))) (l:List (EK.C k)):AA:=(H.put a (.abs (.mem k (L.set j none)) false)).alloc (.vec k l false)
theorem Iz {H:AA} {a j:Nat} {k:EK} {L:List (Option (List (EK.C k)))} {l:List (EK.C k)} (x:Nat):(H.X3 a j k L l).get x=if x=H.next then some (.vec k l false)else if x=a then some (.abs (.mem k (L.set j none)) false)else H.get x:=by
 unfold AA.X3;rw[AA.AM];show(if x=H.next then _ else _)=_;split
 ·rfl
 ·rw[AA.AU]
theorem AJ.X3 (h:AJ base W0 μ H W) {a j:Nat} {k:EK} {L:List (Option (List (EK.C k)))} {l:List (EK.C k)} {T:Bc} (ha:H.get a=some (.abs (.mem k L) false)) (hm:μ a=some T) (hj:L[j]? = some (some l)):
 ∃ts M,T.e=CH ts/\ts[j]? = some M/\AJ base W0 (μ.ext H.next M) (H.X3 a j k L l) W:=by
 obtain⟨φ,q⟩:=h.abs;obtain⟨⟨ts,hR⟩,hK⟩:=q.rep a _ false T ha hm;have hlt:=h.lt ha;have hjt:j < ts.length:=by
  rw[hR.len];exact(List.getElem?_eq_some_iff.1 hj).1
 have hM:=Jj hjt;generalize ts[j]=M at hM;refine⟨ts,M,hR.code,hM,?_⟩;obtain⟨o',ho1,ho2⟩:=hR.row j M l hM hj;have hMs:M.c < W.heap.size:=lt_of_heap ho1;have hle:μ.le (μ.ext H.next M):=Ae.Cc M (h.fresh _ (GO _)).2;have hφM:¬(AP.vec k l false).void M->φ a M.c:=fun hv=>(hR.own _).2 ⟨j,M,l,hM,hj,hv,rfl⟩
 have key:∀b o T2,(H.X3 a j k L l).get b=some o->(μ.ext H.next M) b=some T2->(b=H.next/\o= .vec k l false/\T2=M)∨(b=a/\o= .abs (.mem k (L.set j none)) false/\T2=T)∨(b≠H.next/\b≠a/\H.get b=some o/\μ b=some T2):=by
  intro b o T2 hb hT;rw[Iz]at hb
  by_cases e:b=H.next
  ·rw[MB e]at hb;cases hb
   subst e;rw[Ae.Af]at hT;cases hT
   exact .inl ⟨rfl,rfl,rfl⟩
  ·rw[JT e]at hb;rw[Ae.BI _ _ e]at hT
   by_cases e2:b=a
   ·rw[MB e2]at hb;cases hb
    subst e2;rw[hm]at hT;cases hT
    exact .inr (.inl ⟨rfl,rfl,rfl⟩)
   ·rw[JT e2]at hb;exact .inr (.inr ⟨e,e2,hb,hT⟩)
 have DG:∀b o T2,H.get b=some o->μ b=some T2->b≠a->¬o.void T2->¬(AP.vec k l false).void M->T2.c≠M.c:=by
  intro b o T2 hb hT hne hv hvM e;have:=(q.DG a _ false T ha hm b o T2 hb hT hne).1 hv;rw[e]at this;exact this (hφM hvM)
 have hset:∀(i:Nat) (m:List (EK.C k)),(L.set j none)[i]? = some (some m)->i≠j/\L[i]? = some (some m):=by
  intro i m hi;rw[Q6]at hi
  by_cases e:j=i
  ·rw[MB e]at hi;split at hi<;>cases hi
  ·rw[JT e]at hi;exact⟨fun h=>e h.symm,hi⟩
 have hset2:∀(i:Nat) (m:List (EK.C k)),i≠j->L[i]? = some (some m)->(L.set j none)[i]? = some (some m):=by
  intro i m e hi;rw[Q6,JT (fun h=>e h.symm)];exact hi
 let φ':Nat->Nat->Prop:=fun b x=>if b=a then φ a x/\¬(¬(AP.vec k l false).void M/\x=M.c)else φ b x
 have φa:∀x,φ' a x ↔ (φ a x/\¬(¬(AP.vec k l false).void M/\x=M.c)):=fun x=>by show(if a=a then _ else _) ↔ _;rw[MB rfl]
 have φo:∀b,b≠a->φ' b=φ b:=fun b hb=>by funext x;show(if b=a then _ else _)=_;rw[JT hb]
 have φs:∀b x,φ' b x->φ b x:=fun b x hx=>by
  by_cases e:b=a
  ·subst e;exact((φa x).1 hx).1
  ·rw[φo b e]at hx;exact hx
 refine⟨?_,?_,?_,?_,?_,h.size,h.below,h.out,h.os,⟨φ',?_,?_⟩,Ae.le_trans h.le hle,h.grow⟩
 ·intro b o hb T2 hT;rcases key b o T2 hb hT with⟨rfl,rfl,rfl⟩ | ⟨rfl,rfl,rfl⟩ | ⟨_,_,hb,hT⟩
  ·exact⟨o',ho1,ho2.mono (Vz _)⟩
  ·obtain⟨p,hp,_⟩:=h.obj b _ ha _ hm;exact⟨p,hp,.abs _ _ _ _⟩
  ·obtain⟨p,hp,hp2⟩:=h.obj b o hb T2 hT;exact⟨p,hp,hp2.mono hle⟩
 ·intro b o hb hr T2 hT hv;rcases key b o T2 hb hT with⟨rfl,rfl,rfl⟩ | ⟨rfl,rfl,rfl⟩ | ⟨_,_,hb,hT⟩
  ·exact hK rfl _ (hφM hv)
  ·exact absurd trivial hv
  ·exact h.own b o hb hr T2 hT hv
 ·intro b1 b2 o1 o2 h1 h2 T1 T2 m1 m2 v1 v2 hc hrr;rcases key b1 o1 T1 h1 m1 with⟨rfl,rfl,rfl⟩ | ⟨rfl,rfl,rfl⟩ | ⟨n1,n2,g1,k1⟩<;>rcases key b2 o2 T2 h2 m2 with⟨rfl,rfl,rfl⟩ | ⟨rfl,rfl,rfl⟩ | ⟨n3,n4,g2,k2⟩
  ·rfl
  ·exact absurd trivial v2
  ·exact absurd hc.symm (DG b2 o2 T2 g2 k2 n4 v2 v1)
  ·exact absurd trivial v1
  ·rfl
  ·exact absurd trivial v1
  ·exact absurd hc (DG b1 o1 T1 g1 k1 n2 v1 v2)
  ·exact absurd trivial v2
  ·exact h.inj _ _ o1 o2 g1 g2 T1 T2 k1 k2 v1 v2 hc hrr
 ·intro b hb;have hb:H.next+1<=b:=hb;refine⟨?_,by rw[Ae.BI _ _ (by omega)];exact(h.fresh b (by omega)).2⟩;rw[Iz,JT (by omega),JT (by omega)];exact(h.fresh b (by omega)).1
 ·intro b T2 hT
  by_cases e:b=H.next
  ·subst e;rw[Ae.Af]at hT;cases hT;exact hMs
  ·rw[Ae.BI _ _ e]at hT;exact h.bound b T2 hT
 ·intro b c ro T2 hb hT;rcases key b _ T2 hb hT with⟨_,e,_⟩ | ⟨rfl,e,rfl⟩ | ⟨_,n2,hb,hT⟩
  ·cases e
  ·cases e
   refine⟨⟨ts,hR.code,by rw[SB];exact hR.len,hR.Zc,fun i N m h1 h2=>?_,fun i1 i2 N1 N2 m1 m2 h1 h2 h3 h4=>?_,fun x=>?_⟩,fun hro i hi=>hK rfl i (φs _ i hi)⟩
   ·exact hR.row i N m h1 (hset i m h2).2
   ·exact hR.inj i1 i2 N1 N2 m1 m2 h1 h2 (hset i1 m1 h3).2 (hset i2 m2 h4).2
   ·rw[φa x,hR.own x];constructor
    ·rintro⟨⟨i,N,m,g1,g2,g3,rfl⟩,h2⟩
     by_cases e:i=j
     ·subst e;rw[hM]at g1;cases g1
      rw[hj]at g2;cases g2
      exact absurd ⟨g3,rfl⟩ h2
     ·exact⟨i,N,m,g1,hset2 i m e g2,g3,rfl⟩
    ·rintro⟨i,N,m,g1,g2,g3,rfl⟩;obtain⟨e,g4⟩:=hset i m g2;exact⟨⟨i,N,m,g1,g4,g3,rfl⟩,fun hh=>e (hR.inj i j N M m l g1 hM g4 hj g3 hh.1 hh.2)⟩
  ·obtain⟨r1,r2⟩:=q.rep b c ro T2 hb hT;rw[φo b n2];exact⟨r1.mono hle,r2⟩
 ·intro b c ro T2 hb hT b2 o2 T3 hb2 hT2 hne;rcases key b _ T2 hb hT with⟨_,e,_⟩ | ⟨rfl,e,rfl⟩ | ⟨_,n2,hb,hT⟩
  ·cases e
  ·rcases key b2 o2 T3 hb2 hT2 with⟨rfl,rfl,rfl⟩ | ⟨rfl,_,_⟩ | ⟨_,n4,g2,k2⟩
   ·exact⟨fun hv2 hh=>((φa _).1 hh).2 ⟨hv2,rfl⟩,fun hh=>by cases hh⟩
   ·exact absurd rfl hne
   ·have:=q.DG b _ false _ ha hm b2 o2 T3 g2 k2 n4;exact⟨fun hv2 hh=>this.1 hv2 (φs _ _ hh),fun h1 i hi hi2=>this.2 h1 i (φs _ _ hi) (φs _ _ hi2)⟩
  ·rw[φo b n2];have hba:=q.DG b c ro T2 hb hT a _ T ha hm (gi n2);rcases key b2 o2 T3 hb2 hT2 with⟨rfl,rfl,rfl⟩ | ⟨rfl,rfl,rfl⟩ | ⟨_,n4,g2,k2⟩
   ·exact⟨fun hv2 hh=>hba.2 rfl _ hh (hφM hv2),fun hh=>by cases hh⟩
   ·exact⟨fun hv2=>absurd trivial hv2,fun _ i hi hi2=>hba.2 rfl i hi (φs _ _ hi2)⟩
   ·have:=q.DG b c ro T2 hb hT b2 o2 T3 g2 k2 hne;exact⟨this.1,fun h1 i hi hi2=>this.2 h1 i hi (φs _ _ hi2)⟩
theorem dk {ν μ:Ae} {k:EK} (hk:k.all Fv=true) {l:List (EK.C k)} {M:Bc} {o':Obj} (h:CZ ν M (.vec k l false) o'):CZ μ M (.vec k l false) o':=by
 cases h with
 | vec _ _ _ _ hc=>
  cases hc with
  | cells _ _ _ c t lo hi he hc hr hf=>exact .vec M k l false _ (.cells M _ _ false c t lo hi he (NY k hk l hc) hr hf)
 | Du _ _ _ he hr hk0=>exact .Du M k false _ he hr hk0
theorem AJ.gh (h:AJ base W0 μ H W) {a z j:Nat} {k:EK} (hk:k.all Fv=true) {L:List (Option (List (EK.C k)))} {l:List (EK.C k)} {T M:Bc} {ts:List Bc} (ha:H.get a=some (.abs (.mem k (L.set j none)) false)) (hm:μ a=some T)
 (hc:T.e=CH ts) (hM:ts[j]? = some M) (hz:H.get z=some (.vec k l false)) (hzm:μ z=some M) (hj:j < L.length):AJ base W0 μ ((H.del z).put a (.abs (.mem k (L.set j (some l))) false)) W:=by
 obtain⟨φ,q⟩:=h.abs;obtain⟨⟨us,hR⟩,hK⟩:=q.rep a _ false T ha hm;have hut:us=ts:=Hk (hR.code.symm.trans hc);subst hut;have hza:z≠a:=by rintro rfl;rw[ha]at hz;cases hz
 obtain⟨o',ho1,ho2⟩:=h.obj z _ hz M hzm;have get:∀x,((H.del z).put a (.abs (.mem k (L.set j (some l))) false)).get x=if x=a then some (.abs (.mem k (L.set j (some l))) false)else if x=z then none else H.get x:=fun x=>by
  rw[AA.AU];split
  ·rfl
  ·rw[AA.BU]
 have key:∀b o T2,((H.del z).put a (.abs (.mem k (L.set j (some l))) false)).get b=some o->μ b=some T2->(b=a/\o= .abs (.mem k (L.set j (some l))) false/\T2=T)∨(b≠a/\b≠z/\H.get b=some o):=by
  intro b o T2 hb hT;rw[get]at hb
  by_cases e:b=a
  ·rw[MB e]at hb;cases hb
   subst e;rw[hm]at hT;cases hT
   exact .inl ⟨rfl,rfl,rfl⟩
  ·rw[JT e]at hb
   by_cases e2:b=z
   ·rw[MB e2]at hb;cases hb
   ·rw[JT e2]at hb;exact .inr ⟨e,e2,hb⟩
 have get1:∀(i:Nat) (m:List (EK.C k)),(L.set j (some l))[i]? = some (some m)->(i=j/\m=l)∨(i≠j/\(L.set j none)[i]? = some (some m)):=by
  intro i m hi;rw[Q6]at hi
  by_cases e:j=i
  ·rw[MB e,MB hj]at hi;cases hi
   exact .inl ⟨e.symm,rfl⟩
  ·rw[JT e]at hi;refine .inr ⟨fun h=>e h.symm,?_⟩;rw[Q6,JT e];exact hi
 have get2:∀(i:Nat) (m:List (EK.C k)),(L.set j none)[i]? = some (some m)->i≠j/\(L.set j (some l))[i]? = some (some m):=by
  intro i m hi;rw[Q6]at hi
  by_cases e:j=i
  ·rw[MB e]at hi;split at hi<;>cases hi
  ·rw[JT e]at hi;refine⟨fun h=>e h.symm,?_⟩;rw[Q6,JT e];exact hi
 have get3:(L.set j (some l))[j]? = some (some l):=by rw[Q6,MB rfl,MB hj]
 have zfar:=(q.DG a _ false T ha hm z _ M hz hzm hza).1;let φ':Nat->Nat->Prop:=fun b x=>if b=a then φ a x∨(¬(AP.vec k l false).void M/\x=M.c)else φ b x
 have φa:∀x,φ' a x ↔ (φ a x∨(¬(AP.vec k l false).void M/\x=M.c)):=fun x=>by show(if a=a then _ else _) ↔ _;rw[MB rfl]
 have φo:∀b,b≠a->φ' b=φ b:=fun b hb=>by funext x;show(if b=a then _ else _)=_;rw[JT hb]
 refine⟨?_,?_,?_,?_,h.bound,h.size,h.below,h.out,h.os,⟨φ',?_,?_⟩,h.le,h.grow⟩
 ·intro b o hb T2 hT;rcases key b o T2 hb hT with⟨rfl,rfl,rfl⟩ | ⟨_,_,hb⟩
  ·obtain⟨p,hp,_⟩:=h.obj b _ ha _ hm;exact⟨p,hp,.abs _ _ _ _⟩
  ·exact h.obj b o hb T2 hT
 ·intro b o hb hr T2 hT hv;rcases key b o T2 hb hT with⟨rfl,rfl,rfl⟩ | ⟨_,_,hb⟩
  ·exact absurd trivial hv
  ·exact h.own b o hb hr T2 hT hv
 ·intro b1 b2 o1 o2 h1 h2 T1 T2 m1 m2 v1 v2 hcc hrr;rcases key b1 o1 T1 h1 m1 with⟨rfl,rfl,rfl⟩ | ⟨n1,n2,g1⟩<;>rcases key b2 o2 T2 h2 m2 with⟨rfl,rfl,rfl⟩ | ⟨n3,n4,g2⟩
  ·rfl
  ·exact absurd trivial v1
  ·exact absurd trivial v2
  ·exact h.inj _ _ o1 o2 g1 g2 T1 T2 m1 m2 v1 v2 hcc hrr
 ·intro b hb;have hb:H.next<=b:=hb;refine⟨?_,(h.fresh b hb).2⟩;have hlt:=h.lt ha;rw[get,JT (by omega)];split
  ·rfl
  ·exact(h.fresh b hb).1
 ·intro b c ro T2 hb hT;rcases key b _ T2 hb hT with⟨rfl,e,rfl⟩ | ⟨n1,n2,hb⟩
  ·cases e
   refine⟨⟨us,hR.code,by rw[SB];have:=hR.len;rw[SB]at this;exact this,hR.Zc,fun i N m h1 h2=>?_,fun i1 i2 N1 N2 m1 m2 h1 h2 h3 h4 v1 v2 hcc=>?_,fun x=>?_⟩,fun hro i hi=>?_⟩
   ·rcases get1 i m h2 with⟨rfl,rfl⟩ | ⟨_,h2⟩
    ·rw[hM]at h1;cases h1
     exact⟨o',ho1,dk hk ho2⟩
    ·exact hR.row i N m h1 h2
   ·rcases get1 i1 m1 h3 with⟨e1,e2⟩ | ⟨e1,g3⟩<;>rcases get1 i2 m2 h4 with⟨e3,e4⟩ | ⟨e3,g4⟩
    ·exact e1.trans e3.symm
    ·subst e1 e2;rw[hM]at h1;cases h1
     exact absurd (hcc ▸ (hR.own _).2 ⟨i2,N2,m2,h2,g4,v2,rfl⟩) (zfar v1)
    ·subst e3 e4;rw[hM]at h2;cases h2
     exact absurd (hcc ▸ (hR.own _).2 ⟨i1,N1,m1,h1,g3,v1,rfl⟩) (zfar v2)
    ·exact hR.inj i1 i2 N1 N2 m1 m2 h1 h2 g3 g4 v1 v2 hcc
   ·rw[φa x,hR.own x];constructor
    ·rintro(⟨i,N,m,g1,g2,g3,rfl⟩ | ⟨h1,rfl⟩)
     ·exact⟨i,N,m,g1,(get2 i m g2).2,g3,rfl⟩
     ·exact⟨j,M,l,hM,get3,h1,rfl⟩
    ·rintro⟨i,N,m,g1,g2,g3,rfl⟩;rcases get1 i m g2 with⟨rfl,rfl⟩ | ⟨_,g2⟩
     ·rw[hM]at g1;cases g1
      exact .inr ⟨g3,rfl⟩
     ·exact .inl ⟨i,N,m,g1,g2,g3,rfl⟩
   ·rcases(φa i).1 hi with hi | ⟨hv,rfl⟩
    ·exact hK rfl i hi
    ·exact h.own z _ hz rfl M hzm hv
  ·rw[φo b n1];exact q.rep b c ro T2 hb hT
 ·intro b c ro T2 hb hT b2 o2 T3 hb2 hT2 hne;rcases key b _ T2 hb hT with⟨rfl,e,rfl⟩ | ⟨n1,n2,hb'⟩
  ·rcases key b2 o2 T3 hb2 hT2 with⟨rfl,_,_⟩ | ⟨n3,n4,g2⟩
   ·exact absurd rfl hne
   ·have:=q.DG b _ false _ ha hm b2 o2 T3 g2 hT2 n3;refine⟨fun hv2 hh=>?_,fun h1 i hi hi2=>?_⟩
    ·rcases(φa _).1 hh with hh | ⟨hv,e⟩
     ·exact this.1 hv2 hh
     ·exact n4 (h.inj b2 z o2 _ g2 hz T3 M hT2 hzm hv2 hv e (.inr rfl))
    ·rw[φo b2 n3]at hi2;rcases(φa _).1 hi with hi | ⟨hv,rfl⟩
     ·exact this.2 h1 i hi hi2
     ·cases o2<;>first | (cases h1;done) | skip
      exact(q.DG b2 _ _ T3 g2 hT2 z _ M hz hzm (gi n4)).1 hv hi2
  ·rw[φo b n1];rcases key b2 o2 T3 hb2 hT2 with⟨rfl,rfl,rfl⟩ | ⟨n3,n4,g2⟩
   ·have:=q.DG b c ro T2 hb' hT b2 _ _ ha hm hne;refine⟨fun hv2=>absurd trivial hv2,fun _ i hi hi2=>?_⟩;rcases(φa _).1 hi2 with hi2 | ⟨hv,rfl⟩
    ·exact this.2 rfl i hi hi2
    ·exact(q.DG b c ro T2 hb' hT z _ M hz hzm (gi n2)).1 hv hi
   ·have:=q.DG b c ro T2 hb' hT b2 o2 T3 g2 hT2 hne;rw[φo b2 n3];exact this
end
section
variable {base:Env} {W0:World} {μ:Ae} {H:AA} {W:World}
theorem AJ.renew (h:AJ base W0 μ H W) {a:Nat} {k:EK} {L L2:List (Option (List (EK.C k)))} {T:Bc} {ts ts2:List Bc} (ha:H.get a=some (.abs (.mem k L) false)) (hm:μ a=some T) (hc:T.e=CH ts)
 (hlen:ts2.length=L2.length) (hsel:∀(i:Nat) (N:Bc) (m:List (EK.C k)),ts2[i]? = some N->L2[i]? = some (some m)->ts[i]? = some N/\L[i]? = some (some m)):
 AJ base W0 (μ.ext H.next { T with e:=CH ts2 }) ((H.del a).alloc (.abs (.mem k L2) false)) W:=by
 obtain⟨φ,q⟩:=h.abs;obtain⟨⟨us,hR⟩,hK⟩:=q.rep a _ false T ha hm;have hut:us=ts:=Hk (hR.code.symm.trans hc);subst hut;have hlt:=h.lt ha;generalize hT2:({ T with e:=CH ts2 }:Bc)=T2;have hTc:T2.c=T.c:=by rw[<-hT2]
 have hTe:T2.e=CH ts2:=by rw[<-hT2]
 have hle:μ.le (μ.ext H.next T2):=Ae.Cc T2 (h.fresh _ (GO _)).2;have get:∀x,((H.del a).alloc (.abs (.mem k L2) false)).get x=if x=H.next then some (.abs (.mem k L2) false)else if x=a then none else H.get x:=fun x=>by
  rw[AA.AM];show(if x=H.next then _ else _)=_;split
  ·rfl
  ·rw[AA.BU]
 have key:∀b o T3,((H.del a).alloc (.abs (.mem k L2) false)).get b=some o->(μ.ext H.next T2) b=some T3->(b=H.next/\o= .abs (.mem k L2) false/\T3=T2)∨(b≠H.next/\b≠a/\H.get b=some o/\μ b=some T3):=by
  intro b o T3 hb hT;rw[get]at hb
  by_cases e:b=H.next
  ·rw[MB e]at hb;cases hb
   subst e;rw[Ae.Af]at hT;cases hT
   exact .inl ⟨rfl,rfl,rfl⟩
  ·rw[JT e]at hb;rw[Ae.BI _ _ e]at hT
   by_cases e2:b=a
   ·rw[MB e2]at hb;cases hb
   ·rw[JT e2]at hb;exact .inr ⟨e,e2,hb,hT⟩
 let F2:Nat->Prop:=fun x=>∃(j:Nat) (M:Bc) (l:List (EK.C k)),ts2[j]? = some M/\L2[j]? = some (some l)/\¬(AP.vec k l false).void M/\x=M.c
 have hF:∀x,F2 x->φ a x:=fun x hx=>by
  obtain⟨j,M,l,h1,h2,h3,rfl⟩:=hx;obtain⟨g1,g2⟩:=hsel j M l h1 h2;exact(hR.own _).2 ⟨j,M,l,g1,g2,h3,rfl⟩
 let φ':Nat->Nat->Prop:=fun b x=>if b=H.next then F2 x else φ b x
 have φn:∀x,φ' H.next x ↔ F2 x:=fun x=>by show(if H.next=H.next then _ else _) ↔ _;rw[MB rfl]
 have φo:∀b,b≠H.next->φ' b=φ b:=fun b hb=>by funext x;show(if b=H.next then _ else _)=_;rw[JT hb]
 refine⟨?_,?_,?_,?_,?_,h.size,h.below,h.out,h.os,⟨φ',?_,?_⟩,Ae.le_trans h.le hle,h.grow⟩
 ·intro b o hb T3 hT;rcases key b o T3 hb hT with⟨rfl,rfl,rfl⟩ | ⟨_,_,hb,hT⟩
  ·obtain⟨p,hp,_⟩:=h.obj a _ ha _ hm;exact⟨p,by rw[hTc];exact hp,.abs _ _ _ _⟩
  ·obtain⟨p,hp,hp2⟩:=h.obj b o hb T3 hT;exact⟨p,hp,hp2.mono hle⟩
 ·intro b o hb hr T3 hT hv;rcases key b o T3 hb hT with⟨rfl,rfl,rfl⟩ | ⟨_,_,hb,hT⟩
  ·exact absurd trivial hv
  ·exact h.own b o hb hr T3 hT hv
 ·intro b1 b2 o1 o2 h1 h2 T3 T4 m1 m2 v1 v2 hcc hrr;rcases key b1 o1 T3 h1 m1 with⟨rfl,rfl,rfl⟩ | ⟨n1,n2,g1,k1⟩<;>rcases key b2 o2 T4 h2 m2 with⟨rfl,rfl,rfl⟩ | ⟨n3,n4,g2,k2⟩
  ·rfl
  ·exact absurd trivial v1
  ·exact absurd trivial v2
  ·exact h.inj _ _ o1 o2 g1 g2 T3 T4 k1 k2 v1 v2 hcc hrr
 ·intro b hb;have hb:H.next+1<=b:=hb;refine⟨?_,by rw[Ae.BI _ _ (by omega)];exact(h.fresh b (by omega)).2⟩;rw[get,JT (by omega),JT (by omega)];exact(h.fresh b (by omega)).1
 ·intro b T3 hT
  by_cases e:b=H.next
  ·subst e;rw[Ae.Af]at hT;cases hT
   rw[hTc];exact h.bound a T hm
  ·rw[Ae.BI _ _ e]at hT;exact h.bound b T3 hT
 ·intro b c ro T3 hb hT;rcases key b _ T3 hb hT with⟨rfl,e,rfl⟩ | ⟨n1,_,hb,hT⟩
  ·cases e
   refine⟨⟨ts2,hTe,hlen,by rw[hTc];exact hR.Zc,fun i N m h1 h2=>?_,fun i1 i2 N1 N2 m1 m2 h1 h2 h3 h4=>?_,φn⟩,fun hro i hi=>hK rfl i (hF i ((φn i).1 hi))⟩
   ·obtain⟨g1,g2⟩:=hsel i N m h1 h2;exact hR.row i N m g1 g2
   ·obtain⟨g1,g3⟩:=hsel i1 N1 m1 h1 h3;obtain⟨g2,g4⟩:=hsel i2 N2 m2 h2 h4;exact hR.inj i1 i2 N1 N2 m1 m2 g1 g2 g3 g4
  ·obtain⟨r1,r2⟩:=q.rep b c ro T3 hb hT;rw[φo b n1];exact⟨r1.mono hle,r2⟩
 ·intro b c ro T3 hb hT b2 o2 T4 hb2 hT4 hne;rcases key b _ T3 hb hT with⟨rfl,e,rfl⟩ | ⟨n1,n2,g1,k1⟩
  ·cases e
   rcases key b2 o2 T4 hb2 hT4 with⟨rfl,_,_⟩ | ⟨n3,n4,g2,k2⟩
   ·exact absurd rfl hne
   ·have:=q.DG a _ false _ ha hm b2 o2 T4 g2 k2 n4;rw[φo b2 n3];exact⟨fun hv2 hh=>this.1 hv2 (hF _ ((φn _).1 hh)),fun h1 i hi hi2=>this.2 h1 i (hF _ ((φn _).1 hi)) hi2⟩
  ·rw[φo b n1];rcases key b2 o2 T4 hb2 hT4 with⟨rfl,rfl,rfl⟩ | ⟨n3,n4,g2,k2⟩
   ·have hba:=q.DG b c ro T3 g1 k1 a _ T ha hm (gi n2);exact⟨fun hv2=>absurd trivial hv2,fun _ i hi hi2=>hba.2 rfl i hi (hF _ ((φn _).1 hi2))⟩
   ·rw[φo b2 n3];exact q.DG b c ro T3 g1 k1 b2 o2 T4 g2 k2 hne
theorem AH.wM {μ ν:Ae} {z n j len cap:Nat} {M T:Bc} {v':Value} (hz:μ z=some M) (hn:ν n=some T) (hm:Kn T.e j=some M) (h:AH μ (.slice (some ⟨z,0,some 0⟩) len cap) v'):AH ν (.slice (some ⟨n,1,some j⟩) len cap) v':=by
 cases h with
 | Bk _ _ _ _ cap' o' T' h hc ho hr=>
  rw[hz]at h;cases h
  exact .Cl n j len cap cap' o' T M hn hm (by rw[ABp]at hc;exact hc) (by rw[ABp,AAN]at ho;exact ho) hr
 | DW _ _ _ T' a h hc=>exact .F9 n j cap T a hn hc
theorem AH.xF {μ ν:Ae} {a z j len cap:Nat} {M T:Bc} {v':Value} (ha:μ a=some T) (hm:Kn T.e j=some M) (hz:ν z=some M) (h:AH μ (.slice (some ⟨a,1,some j⟩) len cap) v'):AH ν (.slice (some ⟨z,0,some 0⟩) len cap) v':=by
 cases h with
 | Cl _ _ _ _ cap' o' T' M' h hm' hc ho hr=>
  rw[ha]at h;cases h
  rw[hm]at hm';cases hm'
  exact .Bk z 0 len cap cap' o' M hz (by rw[ABp];exact hc) (by rw[ABp,AAN];exact ho) hr
 | F9 _ _ _ T' x h hc=>exact .DW z 0 cap M x hz hc
theorem AH.rY {μ ν:Ae} {a n j i len cap:Nat} {T T2:Bc} {v':Value} (ha:μ a=some T) (hn:ν n=some T2) (hm:∀M,Kn T.e j=some M->Kn T2.e i=some M) (h:AH μ (.slice (some ⟨a,1,some j⟩) len cap) v'):AH ν (.slice (some ⟨n,1,some i⟩) len cap) v':=by
 cases h with
 | Cl _ _ _ _ cap' o' T' M' h hm' hc ho hr=>
  rw[ha]at h;cases h
  exact .Cl n i len cap cap' o' T2 M' hn (hm M' hm') hc ho hr
 | F9 _ _ _ T' x h hc=>exact .F9 n i cap T2 x hn hc
def AA.freeze (H:AA) (a z:Nat) (k:EK) (L:List (Option (List (EK.C k)))) (l:List (EK.C k)):AA:=((((H.del a).alloc (.abs (.mem k (L++[none])) false)).del z).put H.next (.abs (.mem k (L++[some l])) false))
theorem AJ.freeze (h:AJ base W0 μ H W) {a z:Nat} {k:EK} (hk:k.all Fv=true) {L:List (Option (List (EK.C k)))} {l:List (EK.C k)} {T M:Bc} (ha:H.get a=some (.abs (.mem k L) false)) (hm:μ a=some T)
 (hz:H.get z=some (.vec k l false)) (hzm:μ z=some M):∃ts,T.e=CH ts/\ts.length=L.length/\AJ base W0 (μ.ext H.next { T with e:=CH (ts++[M]) }) (H.freeze a z k L l) W:=by
 obtain⟨φ,q⟩:=h.abs;obtain⟨⟨ts,hR⟩,_⟩:=q.rep a _ false T ha hm;refine⟨ts,hR.code,hR.len,?_⟩;have hza:z≠a:=by rintro rfl;rw[ha]at hz;cases hz
 have hzl:=h.lt hz;have h1:=h.renew (L2:=L++[none]) (ts2:=ts++[M]) ha hm hR.code (by rw[Pq,Pq,hR.len];rfl) (fun i N m g1 g2=>by
  rcases U1 i L.length with hi | hi
  ·rw[jY hi]at g2;rw[jY (by rw[hR.len];exact hi)]at g1;exact⟨g1,g2⟩
  ·rw[lB hi]at g2;generalize i - L.length=x at g2;cases x with
   | zero=>cases g2
   | succ x=>cases g2)
 have e1:∀v:Option (List (EK.C k)),(L++[none]).set L.length v=L++[v]:=fun v=>by
  rw[AA7 _ _ (GO _),me];rfl
 have h2:=h1.gh (a:=H.next) (z:=z) (j:=L.length) hk (L:=L++[none]) (l:=l) (T:={ T with e:=CH (ts++[M]) }) (M:=M) (ts:=ts++[M]) (by rw[e1,AA.AM];exact MB rfl) (Ae.Af _ _ _) rfl
  (by rw[<-hR.len,lB (GO _),me];rfl) (by rw[AA.AM,JT (by show z≠H.next;omega),AA.BU,JT hza];exact hz) (by rw[Ae.BI _ _ (by omega)];exact hzm) (by rw[Pq];exact Nat.lt_succ_self _)
 rw[e1]at h2;exact h2
end
section
variable {base:Env} {W0:World} {μ:Ae} {H:AA} {W:World}
theorem AJ.s9 (h:AJ base W0 μ H W) {a:Nat} {k:EK} {L L2:List (Option (List (EK.C k)))} {T:Bc} {ts ts2:List Bc} (ha:H.get a=some (.abs (.mem k L) false)) (hm:μ a=some T) (hc:T.e=CH ts)
 (hlen:ts2.length=L2.length) (σ:Nat->Nat) (hsel:∀(i:Nat) (N:Bc) (m:List (EK.C k)),ts2[i]? = some N->L2[i]? = some (some m)->ts[σ i]? = some N/\L[σ i]? = some (some m)) (hσ:∀(i j:Nat) (m m':List (EK.C k)),L2[i]? = some (some m)->L2[j]? = some (some m')->σ i=σ j->i=j):
 AJ base W0 (μ.ext H.next { T with e:=CH ts2 }) ((H.del a).alloc (.abs (.mem k L2) false)) W:=by
 obtain⟨φ,q⟩:=h.abs;obtain⟨⟨us,hR⟩,hK⟩:=q.rep a _ false T ha hm;have hut:us=ts:=Hk (hR.code.symm.trans hc);subst hut;have hlt:=h.lt ha;generalize hT2:({ T with e:=CH ts2 }:Bc)=T2;have hTc:T2.c=T.c:=by rw[<-hT2]
 have hTe:T2.e=CH ts2:=by rw[<-hT2]
 have hle:μ.le (μ.ext H.next T2):=Ae.Cc T2 (h.fresh _ (GO _)).2;have get:∀x,((H.del a).alloc (.abs (.mem k L2) false)).get x=if x=H.next then some (.abs (.mem k L2) false)else if x=a then none else H.get x:=fun x=>by
  rw[AA.AM];show(if x=H.next then _ else _)=_;split
  ·rfl
  ·rw[AA.BU]
 have key:∀b o T3,((H.del a).alloc (.abs (.mem k L2) false)).get b=some o->(μ.ext H.next T2) b=some T3->(b=H.next/\o= .abs (.mem k L2) false/\T3=T2)∨(b≠H.next/\b≠a/\H.get b=some o/\μ b=some T3):=by
  intro b o T3 hb hT;rw[get]at hb
  by_cases e:b=H.next
  ·rw[MB e]at hb;cases hb
   subst e;rw[Ae.Af]at hT;cases hT
   exact .inl ⟨rfl,rfl,rfl⟩
  ·rw[JT e]at hb;rw[Ae.BI _ _ e]at hT
   by_cases e2:b=a
   ·rw[MB e2]at hb;cases hb
   ·rw[JT e2]at hb;exact .inr ⟨e,e2,hb,hT⟩
 let F2:Nat->Prop:=fun x=>∃(j:Nat) (M:Bc) (l:List (EK.C k)),ts2[j]? = some M/\L2[j]? = some (some l)/\¬(AP.vec k l false).void M/\x=M.c
 have hF:∀x,F2 x->φ a x:=fun x hx=>by
  obtain⟨j,M,l,h1,h2,h3,rfl⟩:=hx;obtain⟨g1,g2⟩:=hsel j M l h1 h2;exact(hR.own _).2 ⟨σ j,M,l,g1,g2,h3,rfl⟩
 let φ':Nat->Nat->Prop:=fun b x=>if b=H.next then F2 x else φ b x
 have φn:∀x,φ' H.next x ↔ F2 x:=fun x=>by show(if H.next=H.next then _ else _) ↔ _;rw[MB rfl]
 have φo:∀b,b≠H.next->φ' b=φ b:=fun b hb=>by funext x;show(if b=H.next then _ else _)=_;rw[JT hb]
 refine⟨?_,?_,?_,?_,?_,h.size,h.below,h.out,h.os,⟨φ',?_,?_⟩,Ae.le_trans h.le hle,h.grow⟩
 ·intro b o hb T3 hT;rcases key b o T3 hb hT with⟨rfl,rfl,rfl⟩ | ⟨_,_,hb,hT⟩
  ·obtain⟨p,hp,_⟩:=h.obj a _ ha _ hm;exact⟨p,by rw[hTc];exact hp,.abs _ _ _ _⟩
  ·obtain⟨p,hp,hp2⟩:=h.obj b o hb T3 hT;exact⟨p,hp,hp2.mono hle⟩
 ·intro b o hb hr T3 hT hv;rcases key b o T3 hb hT with⟨rfl,rfl,rfl⟩ | ⟨_,_,hb,hT⟩
  ·exact absurd trivial hv
  ·exact h.own b o hb hr T3 hT hv
 ·intro b1 b2 o1 o2 h1 h2 T3 T4 m1 m2 v1 v2 hcc hrr;rcases key b1 o1 T3 h1 m1 with⟨rfl,rfl,rfl⟩ | ⟨n1,n2,g1,k1⟩<;>rcases key b2 o2 T4 h2 m2 with⟨rfl,rfl,rfl⟩ | ⟨n3,n4,g2,k2⟩
  ·rfl
  ·exact absurd trivial v1
  ·exact absurd trivial v2
  ·exact h.inj _ _ o1 o2 g1 g2 T3 T4 k1 k2 v1 v2 hcc hrr
 ·intro b hb;have hb:H.next+1<=b:=hb;refine⟨?_,by rw[Ae.BI _ _ (by omega)];exact(h.fresh b (by omega)).2⟩;rw[get,JT (by omega),JT (by omega)];exact(h.fresh b (by omega)).1
 ·intro b T3 hT
  by_cases e:b=H.next
  ·subst e;rw[Ae.Af]at hT;cases hT
   rw[hTc];exact h.bound a T hm
  ·rw[Ae.BI _ _ e]at hT;exact h.bound b T3 hT
 ·intro b c ro T3 hb hT;rcases key b _ T3 hb hT with⟨rfl,e,rfl⟩ | ⟨n1,_,hb,hT⟩
  ·cases e
   refine⟨⟨ts2,hTe,hlen,by rw[hTc];exact hR.Zc,fun i N m h1 h2=>?_,fun i1 i2 N1 N2 m1 m2 h1 h2 h3 h4 v1 v2 e=>?_,φn⟩,fun hro i hi=>hK rfl i (hF i ((φn i).1 hi))⟩
   ·obtain⟨g1,g2⟩:=hsel i N m h1 h2;exact hR.row (σ i) N m g1 g2
   ·obtain⟨g1,g3⟩:=hsel i1 N1 m1 h1 h3;obtain⟨g2,g4⟩:=hsel i2 N2 m2 h2 h4;exact hσ i1 i2 m1 m2 h3 h4 (hR.inj (σ i1) (σ i2) N1 N2 m1 m2 g1 g2 g3 g4 v1 v2 e)
  ·obtain⟨r1,r2⟩:=q.rep b c ro T3 hb hT;rw[φo b n1];exact⟨r1.mono hle,r2⟩
 ·intro b c ro T3 hb hT b2 o2 T4 hb2 hT4 hne;rcases key b _ T3 hb hT with⟨rfl,e,rfl⟩ | ⟨n1,n2,g1,k1⟩
  ·cases e
   rcases key b2 o2 T4 hb2 hT4 with⟨rfl,_,_⟩ | ⟨n3,n4,g2,k2⟩
   ·exact absurd rfl hne
   ·have:=q.DG a _ false _ ha hm b2 o2 T4 g2 k2 n4;rw[φo b2 n3];exact⟨fun hv2 hh=>this.1 hv2 (hF _ ((φn _).1 hh)),fun h1 i hi hi2=>this.2 h1 i (hF _ ((φn _).1 hi)) hi2⟩
  ·rw[φo b n1];rcases key b2 o2 T4 hb2 hT4 with⟨rfl,rfl,rfl⟩ | ⟨n3,n4,g2,k2⟩
   ·have hba:=q.DG b c ro T3 g1 k1 a _ T ha hm (gi n2);exact⟨fun hv2=>absurd trivial hv2,fun _ i hi hi2=>hba.2 rfl i hi (hF _ ((φn _).1 hi2))⟩
   ·rw[φo b2 n3];exact q.DG b c ro T3 g1 k1 b2 o2 T4 g2 k2 hne
theorem AJ.hY (h:AJ base W0 μ H W) {a z j:Nat} {k:EK} (hk:k.all Fv=true) {L L2:List (Option (List (EK.C k)))} {l:List (EK.C k)} {T M:Bc} {ts ts2:List Bc} (ha:H.get a=some (.abs (.mem k L) false)) (hm:μ a=some T) (hc:T.e=CH ts)
 (hz:H.get z=some (.vec k l false)) (hzm:μ z=some M) (hlen:ts2.length=L2.length) (hj:L2[j]? = some none) (hM:ts2[j]? = some M) (σ:Nat->Nat) (hsel:∀(i:Nat) (N:Bc) (m:List (EK.C k)),ts2[i]? = some N->L2[i]? = some (some m)->ts[σ i]? = some N/\L[σ i]? = some (some m))
 (hσ:∀(i j:Nat) (m m':List (EK.C k)),L2[i]? = some (some m)->L2[j]? = some (some m')->σ i=σ j->i=j):
 ∃T2:Bc,T2.e=CH ts2/\AJ base W0 (μ.ext H.next T2) ((((H.del a).alloc (.abs (.mem k L2) false)).del z).put H.next (.abs (.mem k (L2.set j (some l))) false)) W:=by
 refine⟨{ T with e:=CH ts2 },rfl,?_⟩;have h1:=h.s9 (L2:=L2) (ts2:=ts2) ha hm hc hlen σ hsel hσ;have hza:z≠a:=by rintro rfl;rw[ha]at hz;cases hz
 have hzl:=h.lt hz;have e1:L2.set j none=L2:=by
  obtain⟨q1,q2⟩:=List.getElem?_eq_some_iff.1 hj;rw[<-q2,yp]
 exact h1.gh (a:=H.next) (z:=z) (j:=j) hk (L:=L2) (l:=l) (T:={ T with e:=CH ts2 }) (M:=M) (ts:=ts2) (by rw[e1,AA.AM];exact MB rfl) (Ae.Af _ _ _) rfl hM
  (by rw[AA.AM,JT (by show z≠H.next;omega),AA.BU,JT hza];exact hz) (by rw[Ae.BI _ _ (by omega)];exact hzm) (List.getElem?_eq_some_iff.1 hj).1
theorem Jv {a z j:Nat} {k:EK} {L2:List (Option (List (EK.C k)))} {l:List (EK.C k)} (x:Nat):((((H.del a).alloc (.abs (.mem k L2) false)).del z).put H.next (.abs (.mem k (L2.set j (some l))) false)).get x=if x=H.next then some (.abs (.mem k (L2.set j (some l))) false)else if x=z then none else if x=a then none else H.get x:=by
 rw[AA.AU];split
 ·rfl
 ·rename_i h;rw[AA.BU];split
  ·rfl
  ·rw[AA.AM,JT (by show x≠H.next;exact h),AA.BU]
theorem AJ.NV (h:AJ base W0 μ H W) {b:Nat} {k:EK} {x x':List (EK.C k)} {ro:Bool} (hb:H.get b=some (.vec k x ro)) (hlen:x'.length=x.length) (hv:∀w,Am μ (Ag k x) w->Am μ (Ag k x') w):AJ base W0 μ (H.put b (.vec k x' ro)) W:=by
 refine h.swap hb (fun T o' _ ho=>?_) rfl rfl rfl (fun T _ hvd=>?_)
 ·have hl2:(Ag k x').length=(Ag k x).length:=by rw[BH,BH,hlen]
  cases ho with
  | vec _ _ _ _ hc=>
   cases hc with
   | cells _ _ _ c t lo hi he hc hr hf=>
    refine .vec T k x' ro _ (.cells T _ _ ro c t lo hi he ?_ hr hf);rw[hl2];exact hv _ hc
  | Du _ _ _ he hr hk0=>
   have:x'=[]:=Ss hlen;subst this;exact .Du T k ro _ he hr hk0
 ·obtain⟨h1,h2,h3⟩:=hvd;exact⟨Ss (by rw[hlen,h1];rfl),h2,h3⟩
end
section
variable {X:Ctx} {N:Nat} {D:Nat->Prop} {f:FuncId} {Q:Ih}
theorem Ak.aq {t:Tr Value} {n:Nat} {code:Code} {H:AA} (st:∀(base:Env) (W0:World) (μ:Ae) (W:World),(∀b,D b->∃T,μ b=some T)->AJ base W0 μ H W->
 ∃(μ2:Ae) (H2:AA) (N2:Nat) (D2:Nat->Prop),μ.le μ2/\AJ base W0 μ2 H2 W/\H2.next<=N2/\(∀b,D2 b->∃T,μ2 b=some T)/\Ak X N2 D2 f Q (Em f t n code H2)):Ak X N D f Q (Em f t n code H):=by
 intro base W0 hb0 hDm hok hplan cs0 μ fr cs W hm;obtain⟨hH,hlaid,g,gs,hfr,hcs,hnd⟩:=hm;obtain⟨μ2,H2,N2,D2,k1,k2,hN,k3,h⟩:=st base W0 μ W (fun b hb=>by obtain⟨T,hT⟩:=hDm b hb;exact⟨T,hH.le b T hT⟩) hH;have hle:base.jK.le μ2:=Ae.le_trans hH.le k1;have hm2:JL X ⟨base.K,μ2⟩ W0 μ2 (Em f t n code H2) fr cs W:=by
  refine⟨k2.env (Ae.le_refl _),hlaid.mono k1,?_⟩;cases hcs
  cases hfr with
  | plain fn t n tm todo todo' ds ds' r kd rd rd' ht hi hd hr=>exact⟨[],[],.plain _ _ _ _ _ _ _ _ _ _ _ _ (ht.mono k1) (hi.mono k1) (hd.mono k1) (hr.mono k1),.nil,by simp⟩
 obtain⟨c',v,H1,v1,H3,h1,h3,μ1,fr1,cs1,W1,s1,m1,h2⟩:=h ⟨base.K,μ2⟩ W0 (fun b T hT=>nI (k2.MO hT) hN) k3 (hok.env hle) hplan cs0 μ2 fr cs W hm2;have up:∀{ν:Ae} {H:AA} {W:World},AJ ⟨base.K,μ2⟩ W0 ν H W->AJ base W0 ν H W:=fun g=>⟨g.obj,g.own,g.inj,g.fresh,g.bound,g.size,g.below,g.out,g.os,(let ⟨φ,q⟩:=g.abs;⟨φ,q.rep,q.DG⟩),Ae.le_trans hle g.le,g.grow⟩
 refine⟨c',v,H1,v1,H3,h1,h3,μ1,fr1,cs1,W1,s1,⟨up m1.heap,m1.laid,m1.Xx⟩,fun v' hv hH2=>?_⟩;obtain⟨μ3,g0,g1,g2⟩:=h2 v' hv (hH2.env m1.heap.le);exact⟨μ3,g0,up g1,g2⟩
theorem Ak.Ug {N2:Nat} {D2:Nat->Prop} {t:Tr Value} {n:Nat} {code:Code} {H H2:AA} (h:Ak X N2 D2 f Q (Em f t n code H2))
 (st:∀(base:Env) (W0:World) (μ:Ae) (W:World),(∀b,D b->∃T,μ b=some T)->AJ base W0 μ H W->∃μ2,μ.le μ2/\AJ base W0 μ2 H2 W/\∀b,D2 b->∃T,μ2 b=some T) (hN:H2.next<=N2):Ak X N D f Q (Em f t n code H):=
 Ak.aq fun base W0 μ W hD hH=>let ⟨μ2,k1,k2,k3⟩:=st base W0 μ W hD hH;⟨μ2,H2,N2,D2,k1,k2,hN,k3,h⟩
theorem Ak.tk {N2:Nat} {t:Tr Value} {n:Nat} {code:Code} {H:AA} {b:Nat} {s:Pk} {ro:Bool} (hD:D b) (hb:H.get b=some (.abs (.pack s) ro))
 (h:∀objs,Bx s objs->∃H',FB H b ro objs H' (C3 s)/\H'.next<=N2/\Ak X N2 (fun x=>∃i,i < objs.length/\x=CR b H.next i) f Q (Em f t n code H')):Ak X N D f Q (Em f t n code H):=
 Ak.aq fun base W0 μ W hDm hH=>by
  obtain⟨T,hT⟩:=hDm b hD;obtain⟨objs,hr,ho⟩:=hH.opened hb hT;obtain⟨H',hO,hn,hrun⟩:=h objs hr;obtain⟨μ',hH',hE,hk⟩:=ho H' hO;exact⟨μ',H',N2,_,hE.le,hH',hn,fun x ⟨i,hi,e⟩=>by rw[e];exact hk i hi,hrun⟩
end
theorem aP {P:Program} {laid:Co} {fs:List (FuncId × DO)} {N:Nat} (hfs:CO P laid fs) (hm:P.follows .mixedOrders=true) (hN:(laid.all fun p=>Nat.blt p.1 N)=true) {f:FuncId} {n:Nat} (he:entry P f=some (n,A9 P f [])) {q:Gk} (hx:∀s,C3 s=[])
 (hrun:∀s rest os,(q s rest os).Uh fun x=>rest.length+1<=n/\∀objs,Bx s objs->
  ∃H' N2,FB (DH ⟨.leaf,N⟩ (.abs (.pack s) false::EH [true] 1 os)) N false objs H' []/\H'.next<=N2/\
   Ak (Bp P laid fs) N2 (fun x=>∃i,i < objs.length/\x=CR N (N+(os.length+1)) i) f (fun v H=>Db laid N (os.length+1) [true] ⟨x.v,[some (.abs (.pack x.nx) false)],x.news⟩ v H) (Em f (CM 0 (.pointer (some ⟨N,0,none⟩)::rest) .leaf) n (A9 P f []) H')):
 CY P laid f (Ai laid N [true] (CX N q)):=by
 refine BF hfs hm he hN fun argsc objs y hxr hro=>?_
 unfold CX at hxr;split at hxr
 ·rename_i b rest s ro os;cases hb:Nat.beq b N
  ·simp only[hb,EB,GT.run]at hxr;cases hxr
  ·simp only[hb,C8]at hxr;have hb:=DN hb;subst hb;have hr0:ro=false:=hro 0 _ rfl rfl;subst hr0;obtain⟨x,⟨g1,g2⟩,rfl⟩:=PT.Ku (hrun s rest os) hxr;refine⟨by simpa using g1,?_⟩;have hget:(DH ⟨.leaf,b⟩ (.abs (.pack s) false::EH [true] 1 os)).get b=some (.abs (.pack s) false):=by
    rw[Fc];show(if b < b then _ else _)=_;rw[JT (uB _),me];rfl
   have hlen:∀(j:Nat) (l:BN),(EH [true] j l).length=l.length:=by
    intro j l;induction l generalizing j with
    | nil=>rfl
    | cons o l ih=>show(EH [true] (j+1) l).length+1=l.length+1;rw[ih]
   have hnx:(DH ⟨.leaf,b⟩ (.abs (.pack s) false::EH [true] 1 os)).next=b+(os.length+1):=by
    rw[LC];show b+((EH [true] 1 os).length+1)=_;rw[hlen]
   refine Ak.aq fun base W0 μ W hDm hH=>?_
   obtain⟨T,hT⟩:=hDm b ⟨GO _,by simp⟩;obtain⟨objs2,hr,ho⟩:=hH.opened hget hT;obtain⟨H',N2,h1,h2,h3⟩:=g2 objs2 hr;obtain⟨μ',hH',hE,hk⟩:=ho H' (by rw[hx s];exact h1);refine⟨μ',H',N2,_,hE.le,hH',h2,fun x ⟨i,hi,e⟩=>?_,h3⟩;rw[e,<-hnx];exact hk i hi
 ·cases hxr
end Go.AD
set_option linter.unusedVariables false
set_option linter.unusedSimpArgs false
namespace Go.AD
variable {P:Program}
theorem Ck (w:World) (dT sT ty elem:TypeId) (k b o dLen dCap:Nat) (a:Addr) (sLen sCap m:Nat) (cs:List Value)
 (hu:P.underlying dT=some (.slice elem)) (hs:(P.info? elem).map (·.size)=some k) (hm:m=Nat.min sLen dLen) (hn:cs.length=m * k)
 (hsrc:∀j v,cs[j]? = some v->w.cell? (a.add j)=some v) (hc:∀j,j < cs.length->(w.cell? ⟨b,o+j,none⟩).isSome=true) (hf:∀j,j < cs.length->w.frozen? ⟨b,o+j,none⟩=false) (h1:∀v∈cs,v.oneCell'=true):
 (Builtin.copy_ #[dT,sT] ty #[.slice (some ⟨b,o,none⟩) dLen dCap,.slice (some a) sLen sCap]).run P w= .ok (goInt m) (w.setCells b o cs):=by
 have hl:=run_loadCells_list (P:=P) w a cs hsrc;have hst:=run_storeCells_cells (P:=P) b o cs 0 w (by simpa using hc) (by simpa using hf) h1;cases hq:P.info? elem with
 | none=>simp[hq]at hs
 | some i=>
  have hi:i.size=k:=by simpa [hq] using hs
  simp[Builtin.copy_,run_underlying hu,Builtin.lenOf,Builtin.firstCells,sizeOf,typeInfo,hq,hi,<-hm,<-hn,hl,hst]
end Go.AD
set_option linter.unusedVariables false
set_option linter.unusedSimpArgs false
namespace Go.AD
open Go.Proofs Go.RowKit Go.Lib
set_option maxHeartbeats 4000000 in
set_option maxRecDepth 100000 in
theorem Me (b off n c i vb voff m vc:Nat) (cs vs:AL) (w:World) (hi:i < n) (hm:0 < m) (hroom:n+m<=c) (hc63:c<=9223372036854775807) (hvb:vb≠b)
 (hcl:cs.length=n * 6) (hvl:vs.length=m * 6)
 (hcs:∀j v,cs[j]? = some v->w.cell? ⟨b,off+j,none⟩=some v) (hsp:∀j,j < (n+m) * 6->(w.cell? ⟨b,off+j,none⟩).isSome=true) (hfz:∀j,j < (n+m) * 6->w.frozen? ⟨b,off+j,none⟩=false)
 (hvs:∀j v,vs[j]? = some v->w.cell? ⟨vb,voff+j,none⟩=some v) (h1c:∀v∈cs,v.oneCell'=true) (h1v:∀v∈vs,v.oneCell'=true)
 (tA tB:TypeId) (kA kB:Nat) (hsa:w.shape? vb=some (tA,kA)) (hsb:w.shape? b=some (tB,kB)) (hkB:kB≠0) (hfa:w.frozen? ⟨vb,voff,none⟩=false) (hfe:w.frozen? ⟨vb,kA,none⟩=false):
 Calls Tryz.prog 135 #[.slice (some ⟨b,off,none⟩) n c,.int .i64 i,.slice (some ⟨vb,voff,none⟩) m vc] w fun e w'=>
  e= .returned (.slice (some ⟨b,off,none⟩) (n+m) c)/\w'=(w.drew.setCells b (off+(i+m) * 6) (cs.drop (i * 6))).setCells b (off+i * 6) vs:=by
 have mixed:Tryz.prog.follows .mixedOrders=true:=by kernel_rfl
 have hz1:¬((m:Int)=0):=by omega
 have hz2:¬((i:Int)=(n:Int)):=by omega
 have hsz:(Tryz.prog.info? 70).map (·.size)=some 6:=by kernel_rfl
 have hov:∀lb cb,(callFunc 185 #[.slice (some ⟨vb,voff,none⟩) m vc,.slice (some ⟨b,off+(i+m) * 6,none⟩) lb cb]).run Tryz.prog w= .ok (.value (.bool false)) w:=fun lb cb=>by
  rw[run_callFunc_extern Tryz.func185 (by kernel_rfl) (by kernel_rfl) (by kernel_rfl) (e:=Extern.SlicesOverlaps.overlaps #[100,100] #[4]) (by kernel_rfl),
   Lib.run_overlaps_apart w 100 4 70 Tryz.underlying100 6 (fun w=>Tryz.sizeOf70 w) ⟨vb,voff,none⟩ ⟨b,off+(i+m) * 6,none⟩ m vc lb cb hvb tA tB kA kB hsa hsb hkB hfa hfe]
  rfl
 have hdl:(cs.drop (i * 6)).length=(n - i) * 6:=by rw[Tx,hcl,ABe]
 have hw1:IntKind.i64.wrap ((i:Int)+(m:Int))=(i:Int)+(m:Int):=by rw[IntKind.wrap_i64];omega
 have hb1:(0:Int)<=(i:Int)+(m:Int):=by omega
 have hin:i<=n:=by omega
 have htn:((i:Int)+(m:Int)).toNat=i+m:=by omega
 have hb2:¬(c=i+m):=by omega
 have hb3:(i:Int)<=(n:Int)+(m:Int):=by omega
 have hb4:¬(c=i):=by omega
 have hcp1:∀ty dc sc,(Builtin.copy_ #[101,101] ty #[.slice (some ⟨b,off+(i+m) * 6,none⟩) (n+m - (i+m)) dc,.slice (some ⟨b,off+i * 6,none⟩) (n+m - i) sc]).run Tryz.prog w.drew= .ok (goInt ((n - i:Nat):Int)) (w.drew.setCells b (off+(i+m) * 6) (cs.drop (i * 6))):=fun ty dc sc=>
  Ck w.drew _ _ ty 70 6 b (off+(i+m) * 6) (n+m - (i+m)) dc ⟨b,off+i * 6,none⟩ (n+m - i) sc (n - i) (cs.drop (i * 6)) Tryz.underlying101 hsz (by simp only[AAv];split<;>omega) hdl
   (fun j v hj=>by rw[Addr.add_lit,jV];exact hcs (i * 6+j) v (by rwa [mX]at hj))
   (fun j hj=>by rw[jV];exact hsp _ (by omega)) (fun j hj=>by rw[jV];exact hfz _ (by omega)) (fun v hv=>h1c v (yO hv))
 obtain⟨W1,hW1⟩:∃W1,W1=w.drew.setCells b (off+(i+m) * 6) (cs.drop (i * 6)):=⟨_,rfl⟩
 have hsp1:∀k,k < (n+m) * 6->(W1.cell? ⟨b,off+k,none⟩).isSome=true:=fun k hk=>by
  rw[hW1];exact isSome_setCells b _ _ _ (fun j hj=>by rw[jV];exact hsp _ (by omega)) _ (hsp k hk)
 have hcp2:∀(W:World),(∀x,W.cell? x=W1.cell? x)->(∀x,W.frozen? x=W1.frozen? x)->∀ty dc,(Builtin.copy_ #[101,100] ty #[.slice (some ⟨b,off+i * 6,none⟩) (n+m - i) dc,.slice (some ⟨vb,voff,none⟩) m vc]).run Tryz.prog W= .ok (goInt m) (W.setCells b (off+i * 6) vs):=fun W hWc hWf ty dc=>
  Ck W _ _ ty 70 6 b (off+i * 6) (n+m - i) dc ⟨vb,voff,none⟩ m vc m vs Tryz.underlying101 hsz (by simp only[AAv];split<;>omega) hvl
   (fun j v hj=>by
    rw[Addr.add_lit,hWc,hW1,World.cell?_setCells_out b _ _ _ _ (fun h _=>absurd h hvb)];exact hvs j v hj)
   (fun j hj=>by rw[hWc,jV];exact hsp1 _ (by omega)) (fun j hj=>by rw[hWf,hW1,World.frozen?_setCells,jV];exact hfz _ (by omega)) h1v
 rw[<-hW1]at hcp1
 go_enter Tryz.func135,Tryz.ntmps135
 go_wp2_with (simp only[hov])
 go_region_law_o (refine step_copy_runI rfl _ _ 101 101 rfl _ _ (by simp[Act.eval,Act.put]) (by simp[Act.eval,Act.put]) (hcp1 _ _ _) ?_)
 go_wp2_with (at_builtin;refine wpList_copy_runI _ rfl _ _ 101 100 rfl _ _ rfl rfl (hcp2 _ (fun _=>rfl) (fun _=>rfl) _ _) ?_)
 go_ret
 first | exact⟨rfl,rfl⟩ | exact⟨rfl,by rw[hW1]⟩
set_option maxHeartbeats 4000000 in
set_option maxRecDepth 100000 in
theorem No (b off n c i vb voff m vc:Nat) (cs vs:AL) (w:World) (hi:i < n) (hm:0 < m) (hnc:n<=c) (hroom:c < n+m) (hbig:(2 * (n+m)+192) * 56<=281474976710656)
 (hcl:cs.length=n * 6) (hvl:vs.length=m * 6)
 (hcs:∀j v,cs[j]? = some v->w.cell? ⟨b,off+j,none⟩=some v)
 (hvs:∀j v,vs[j]? = some v->w.cell? ⟨vb,voff+j,none⟩=some v) (h1c:∀v∈cs,v.oneCell'=true) (h1v:∀v∈vs,v.oneCell'=true):
 Calls Tryz.prog 135 #[.slice (some ⟨b,off,none⟩) n c,.int .i64 i,.slice (some ⟨vb,voff,none⟩) m vc] w fun e w'=>
  ∃(G:Nat) (ROW:BR),n+m<=G/\ROW.size=G * 6/\ROW.toList.take (i * 6)=cs.take (i * 6)/\e= .returned (.slice (some ⟨w.heap.size,0,none⟩) (n+m) G)/\G<=9223372036854775807/\
   w'=(((w.alloc (.cells ROW 70)).drew.setCells w.heap.size (i * 6) vs).drew).setCells w.heap.size ((i+m) * 6) (cs.drop (i * 6)):=by
 have mixed:Tryz.prog.follows .mixedOrders=true:=by kernel_rfl
 obtain⟨i0,z0,hi0,hz0,hzs,hzb,hzc⟩:∃i0 z0,Tryz.prog.info? 70=some i0/\i0.zero=some z0/\i0.size=6/\i0.bytes=56/\z0.cells.size=6:=⟨Tryz.t70,Tryz.t70.zero.getD default,by kernel_rfl,by kernel_rfl,by kernel_rfl,by kernel_rfl,by kernel_rfl⟩
 have hz1:¬((m:Int)=0):=by omega
 have hz2:¬((i:Int)=(n:Int)):=by omega
 have hz3:(c:Int) < (n:Int)+(m:Int):=by omega
 have hsz:(Tryz.prog.info? 70).map (·.size)=some 6:=by rw[hi0];simp[hzs]
 have hbw:b < w.heap.size:=block_lt_of_cell (hcs 0 _ (Jj (by omega)));have hvw:vb < w.heap.size:=block_lt_of_cell (hvs 0 _ (Jj (by omega)));have hkk:(n:Int)+(m:Int) - (i:Int)=((n+m - i:Nat):Int):=by omega
 have hik:i+(n+m - i)=n+m:=by omega
 have hold:(Builtin.firstCells i0.size i (.slice (some ⟨b,off,none⟩) i c)).run Tryz.prog w.drew= .ok (cs.take (i * 6)).toArray w.drew:=by
  rw[hzs];exact run_firstCells_some w.drew 6 i ⟨b,off,none⟩ i c (cs.take (i * 6)) (by rw[Rg];omega) (fun j v hj=>by
   rw[Addr.add_lit];rw[mM]at hj;split at hj
   ·exact hcs j v hj
   ·cases hj)
 have hncl:=Ja (need:=n+m) (cap:=c) hroom;have hfits:Builtin.nextslicecap (n+m) c * 56<=281474976710656:=wQ (di _ hncl) hbig;have hrz:∀ty,(Builtin.append_ #[101,3] ty #[.slice (some ⟨b,off,none⟩) i c,.int .i64 ((n:Int)+(m:Int) - (i:Int))]).run Tryz.prog w=
  .ok (.slice (some ⟨w.heap.size,0,none⟩) (n+m) (grownCap w (n+m) c 70)) (w.drew.alloc (.cells ((cs.take (i * 6)).toArray++Builtin.zeroCells z0.cells (n+m - i)++Builtin.zeroCells z0.cells (grownCap w (n+m) c 70 - (n+m))) 70)):=fun ty=>by
  have h:=Lib.run_append_grow_zeros w 101 3 ty 70 i0 _ .i64 .i64 Tryz.underlying101 Tryz.underlying3 hi0 hz0 (some ⟨b,off,none⟩) i c (cs.take (i * 6)) hold (n+m - i) (by omega) (by omega) (by omega) (by omega) (by rw[hzb];omega) (by rw[hzb,hik];exact hfits);rw[hik]at h;rw[hkk];exact h
 obtain⟨G,hG⟩:∃G,G=grownCap w (n+m) c 70:=⟨_,rfl⟩
 have hGn:n+m<=G:=by rw[hG];exact grownCap_ge w _ _ _
 obtain⟨ROW,hROW⟩:∃ROW:BR,ROW=(cs.take (i * 6)).toArray++Builtin.zeroCells z0.cells (n+m - i)++Builtin.zeroCells z0.cells (G - (n+m)):=⟨_,rfl⟩
 rw[<-hG]at hrz;rw[<-hROW]at hrz;have hRl:ROW.size=G * 6:=by
  rw[hROW];simp[Eh,hzc,hcl];omega
 have hRt:ROW.toList.take (i * 6)=cs.take (i * 6):=by
  rw[hROW];simp only[pJ,aU];rw[Zq (by simp[hcl];omega),tV,ABG]
 obtain⟨W1,hW1⟩:∃W1,W1=w.drew.alloc (.cells ROW 70):=⟨_,rfl⟩
 rw[<-hW1]at hrz;have hN:∀j,j < (n+m) * 6->(W1.cell? ⟨w.heap.size,j,none⟩).isSome=true:=fun j hj=>by
  rw[hW1,World.cell?_alloc_at (w:=w.drew) ROW _ w.heap.size j rfl,dm (by omega)];rfl
 have hNf:∀j,W1.frozen? ⟨w.heap.size,j,none⟩=false:=fun j=>by rw[hW1];exact World.frozen?_alloc_at (w:=w.drew) ROW _ w.heap.size j rfl
 have hOb:∀j v,w.cell? ⟨b,j,none⟩=some v->W1.cell? ⟨b,j,none⟩=some v:=fun j v h=>by rw[hW1,World.cell?_alloc_past (w:=w.drew) _ b j hbw];exact h
 have hOv:∀j v,w.cell? ⟨vb,j,none⟩=some v->W1.cell? ⟨vb,j,none⟩=some v:=fun j v h=>by rw[hW1,World.cell?_alloc_past (w:=w.drew) _ vb j hvw];exact h
 have hcpA:∀(W:World),(∀x,W.cell? x=W1.cell? x)->(∀x,W.frozen? x=W1.frozen? x)->∀ty dc,(Builtin.copy_ #[101,100] ty #[.slice (some ⟨w.heap.size,i * 6,none⟩) (n+m - i) dc,.slice (some ⟨vb,voff,none⟩) m vc]).run Tryz.prog W= .ok (goInt m) (W.setCells w.heap.size (i * 6) vs):=fun W hWc hWf ty dc=>
  Ck W _ _ ty 70 6 w.heap.size (i * 6) (n+m - i) dc ⟨vb,voff,none⟩ m vc m vs Tryz.underlying101 hsz (by simp only[AAv];split<;>omega) hvl
   (fun j v hj=>by rw[Addr.add_lit,hWc];exact hOv _ v (hvs j v hj))
   (fun j hj=>by rw[hWc];exact hN _ (by omega)) (fun j hj=>by rw[hWf];exact hNf _) h1v
 have hG63:G<=9223372036854775807:=by
  have:=grownCap_le_maxLen w (n+m) c 70 (by unfold maxLen;omega);rw[<-hG]at this;unfold maxLen at this;omega
 have hGi:¬(G=i):=by omega
 have hGim:¬(G=i+m):=by omega
 have hci:¬(c=i):=by omega
 have hbN:b≠w.heap.size:=by omega
 have hdl:(cs.drop (i * 6)).length=(n - i) * 6:=by rw[Tx,hcl,ABe]
 have hcpB:∀(W:World),(∀x,W.cell? x=(W1.setCells w.heap.size (i * 6) vs).cell? x)->(∀x,W.frozen? x=(W1.setCells w.heap.size (i * 6) vs).frozen? x)->∀ty dc sc,(Builtin.copy_ #[101,101] ty #[.slice (some ⟨w.heap.size,(i+m) * 6,none⟩) (n+m - (i+m)) dc,.slice (some ⟨b,off+i * 6,none⟩) (n - i) sc]).run Tryz.prog W= .ok (goInt ((n - i:Nat):Int)) (W.setCells w.heap.size ((i+m) * 6) (cs.drop (i * 6))):=fun W hWc hWf ty dc sc=>
  Ck W _ _ ty 70 6 w.heap.size ((i+m) * 6) (n+m - (i+m)) dc ⟨b,off+i * 6,none⟩ (n - i) sc (n - i) (cs.drop (i * 6)) Tryz.underlying101 hsz (by simp only[AAv];split<;>omega) hdl
   (fun j v hj=>by
    rw[Addr.add_lit,hWc,World.cell?_setCells_out _ _ _ _ _ (fun h _=>absurd h hbN),jV];exact hOb _ v (hcs (i * 6+j) v (by rwa [mX]at hj)))
   (fun j hj=>by rw[hWc];exact isSome_setCells _ _ _ _ (fun t ht=>hN _ (by omega)) _ (hN _ (by omega)))
   (fun j hj=>by rw[hWf,World.frozen?_setCells];exact hNf _) (fun v hv=>h1c v (yO hv))
 subst hW1;have hE1:∀x,((w.alloc (.cells ROW 70)).drew).cell? x=(w.drew.alloc (.cells ROW 70)).cell? x:=fun x=>rfl
 have hE2:∀x,((w.alloc (.cells ROW 70)).drew).frozen? x=(w.drew.alloc (.cells ROW 70)).frozen? x:=fun x=>rfl
 have hF1:∀x,(((w.alloc (.cells ROW 70)).drew.setCells w.heap.size (i * 6) vs).drew).cell? x=((w.drew.alloc (.cells ROW 70)).setCells w.heap.size (i * 6) vs).cell? x:=fun x=>rfl
 have hF2:∀x,(((w.alloc (.cells ROW 70)).drew.setCells w.heap.size (i * 6) vs).drew).frozen? x=((w.drew.alloc (.cells ROW 70)).setCells w.heap.size (i * 6) vs).frozen? x:=fun x=>rfl
 have hw1:IntKind.i64.wrap ((i:Int)+(m:Int))=(i:Int)+(m:Int):=by rw[IntKind.wrap_i64];omega
 have hb1:(0:Int)<=(i:Int)+(m:Int):=by omega
 have hin:i<=n:=by omega
 have htn:((i:Int)+(m:Int)).toNat=i+m:=by omega
 have hb3:(i:Int)<=(n:Int):=by omega
 clear hkk hik hold hROW hG hncl hfits
 go_enter Tryz.func135,Tryz.ntmps135
 go_wp2_with (first
  | (at_builtin;refine Lib.wpList_append_run _ rfl _ _ _ _ rfl _ _ rfl rfl _ _ (hrz _) ?_)
  | (at_builtin;refine wpList_copy_runI _ rfl _ _ 101 100 rfl _ _ rfl rfl (hcpA _ hE1 hE2 _ _) ?_)
  | (at_builtin;refine wpList_copy_runI _ rfl _ _ 101 101 rfl _ _ rfl rfl (hcpB _ (fun _=>rfl) (fun _=>rfl) _ _ _) ?_))
 go_region_law_o (refine step_copy_runI rfl _ _ 101 101 rfl (.slice (some ⟨w.heap.size,(i+m) * 6,none⟩) (n+m - (i+m)) (G - (i+m))) (.slice (some ⟨b,off+i * 6,none⟩) (n - i) (c - i)) (by simp[Act.eval,Act.put]) (by simp[Act.eval,Act.put]) (hcpB _ hF1 hF2 3 (G - (i+m)) (c - i)) ?_)
 go_wp2
 go_ret
 exact⟨G,ROW,hGn,hRl,hRt,rfl,hG63,rfl⟩
theorem ek (laid:Co):CY Tryz.prog laid 135 (Fl 6 56):=
 Jd ⟨_,_,show entry Tryz.prog 135=some (95,A9 Tryz.prog 135 []) by kernel_rfl⟩ (by decide) (by decide) Me No
end Go.AD
set_option linter.unusedVariables false
set_option linter.unusedSimpArgs false
namespace Go.AD
open Go.Proofs Go.RowKit Go.Lib
set_option maxHeartbeats 4000000 in
set_option maxRecDepth 100000 in
theorem MQ (b off n c i vb voff m vc:Nat) (cs vs:AL) (w:World) (hi:i < n) (hm:0 < m) (hroom:n+m<=c) (hc63:c<=9223372036854775807) (hvb:vb≠b)
 (hcl:cs.length=n * 2) (hvl:vs.length=m * 2)
 (hcs:∀j v,cs[j]? = some v->w.cell? ⟨b,off+j,none⟩=some v) (hsp:∀j,j < (n+m) * 2->(w.cell? ⟨b,off+j,none⟩).isSome=true) (hfz:∀j,j < (n+m) * 2->w.frozen? ⟨b,off+j,none⟩=false)
 (hvs:∀j v,vs[j]? = some v->w.cell? ⟨vb,voff+j,none⟩=some v) (h1c:∀v∈cs,v.oneCell'=true) (h1v:∀v∈vs,v.oneCell'=true)
 (tA tB:TypeId) (kA kB:Nat) (hsa:w.shape? vb=some (tA,kA)) (hsb:w.shape? b=some (tB,kB)) (hkB:kB≠0) (hfa:w.frozen? ⟨vb,voff,none⟩=false) (hfe:w.frozen? ⟨vb,kA,none⟩=false):
 Calls Tryz.prog 189 #[.slice (some ⟨b,off,none⟩) n c,.int .i64 i,.slice (some ⟨vb,voff,none⟩) m vc] w fun e w'=>
  e= .returned (.slice (some ⟨b,off,none⟩) (n+m) c)/\w'=(w.drew.setCells b (off+(i+m) * 2) (cs.drop (i * 2))).setCells b (off+i * 2) vs:=by
 have mixed:Tryz.prog.follows .mixedOrders=true:=by kernel_rfl
 have hz1:¬((m:Int)=0):=by omega
 have hz2:¬((i:Int)=(n:Int)):=by omega
 have hsz:(Tryz.prog.info? 255).map (·.size)=some 2:=by kernel_rfl
 have hov:∀lb cb,(callFunc 219 #[.slice (some ⟨vb,voff,none⟩) m vc,.slice (some ⟨b,off+(i+m) * 2,none⟩) lb cb]).run Tryz.prog w= .ok (.value (.bool false)) w:=fun lb cb=>by
  rw[run_callFunc_extern Tryz.func219 (by kernel_rfl) (by kernel_rfl) (by kernel_rfl) (e:=Extern.SlicesOverlaps.overlaps #[227,227] #[4]) (by kernel_rfl),
   Lib.run_overlaps_apart w 227 4 255 Tryz.underlying227 2 (fun w=>Tryz.sizeOf255 w) ⟨vb,voff,none⟩ ⟨b,off+(i+m) * 2,none⟩ m vc lb cb hvb tA tB kA kB hsa hsb hkB hfa hfe]
  rfl
 have hdl:(cs.drop (i * 2)).length=(n - i) * 2:=by rw[Tx,hcl,ABe]
 have hw1:IntKind.i64.wrap ((i:Int)+(m:Int))=(i:Int)+(m:Int):=by rw[IntKind.wrap_i64];omega
 have hb1:(0:Int)<=(i:Int)+(m:Int):=by omega
 have hin:i<=n:=by omega
 have htn:((i:Int)+(m:Int)).toNat=i+m:=by omega
 have hb2:¬(c=i+m):=by omega
 have hb3:(i:Int)<=(n:Int)+(m:Int):=by omega
 have hb4:¬(c=i):=by omega
 have hcp1:∀ty dc sc,(Builtin.copy_ #[227,227] ty #[.slice (some ⟨b,off+(i+m) * 2,none⟩) (n+m - (i+m)) dc,.slice (some ⟨b,off+i * 2,none⟩) (n+m - i) sc]).run Tryz.prog w.drew= .ok (goInt ((n - i:Nat):Int)) (w.drew.setCells b (off+(i+m) * 2) (cs.drop (i * 2))):=fun ty dc sc=>
  Ck w.drew _ _ ty 255 2 b (off+(i+m) * 2) (n+m - (i+m)) dc ⟨b,off+i * 2,none⟩ (n+m - i) sc (n - i) (cs.drop (i * 2)) Tryz.underlying227 hsz (by simp only[AAv];split<;>omega) hdl
   (fun j v hj=>by rw[Addr.add_lit,jV];exact hcs (i * 2+j) v (by rwa [mX]at hj))
   (fun j hj=>by rw[jV];exact hsp _ (by omega)) (fun j hj=>by rw[jV];exact hfz _ (by omega)) (fun v hv=>h1c v (yO hv))
 obtain⟨W1,hW1⟩:∃W1,W1=w.drew.setCells b (off+(i+m) * 2) (cs.drop (i * 2)):=⟨_,rfl⟩
 have hsp1:∀k,k < (n+m) * 2->(W1.cell? ⟨b,off+k,none⟩).isSome=true:=fun k hk=>by
  rw[hW1];exact isSome_setCells b _ _ _ (fun j hj=>by rw[jV];exact hsp _ (by omega)) _ (hsp k hk)
 have hcp2:∀(W:World),(∀x,W.cell? x=W1.cell? x)->(∀x,W.frozen? x=W1.frozen? x)->∀ty dc,(Builtin.copy_ #[227,227] ty #[.slice (some ⟨b,off+i * 2,none⟩) (n+m - i) dc,.slice (some ⟨vb,voff,none⟩) m vc]).run Tryz.prog W= .ok (goInt m) (W.setCells b (off+i * 2) vs):=fun W hWc hWf ty dc=>
  Ck W _ _ ty 255 2 b (off+i * 2) (n+m - i) dc ⟨vb,voff,none⟩ m vc m vs Tryz.underlying227 hsz (by simp only[AAv];split<;>omega) hvl
   (fun j v hj=>by
    rw[Addr.add_lit,hWc,hW1,World.cell?_setCells_out b _ _ _ _ (fun h _=>absurd h hvb)];exact hvs j v hj)
   (fun j hj=>by rw[hWc,jV];exact hsp1 _ (by omega)) (fun j hj=>by rw[hWf,hW1,World.frozen?_setCells,jV];exact hfz _ (by omega)) h1v
 rw[<-hW1]at hcp1
 go_enter Tryz.func189,Tryz.ntmps189
 go_wp2_with (simp only[hov])
 go_region_law_o (refine step_copy_runI rfl _ _ 227 227 rfl _ _ (by simp[Act.eval,Act.put]) (by simp[Act.eval,Act.put]) (hcp1 _ _ _) ?_)
 go_wp2_with (at_builtin;refine wpList_copy_runI _ rfl _ _ 227 227 rfl _ _ rfl rfl (hcp2 _ (fun _=>rfl) (fun _=>rfl) _ _) ?_)
 go_ret
 first | exact⟨rfl,rfl⟩ | exact⟨rfl,by rw[hW1]⟩
set_option maxHeartbeats 4000000 in
set_option maxRecDepth 100000 in
theorem N9 (b off n c i vb voff m vc:Nat) (cs vs:AL) (w:World) (hi:i < n) (hm:0 < m) (hnc:n<=c) (hroom:c < n+m) (hbig:(2 * (n+m)+192) * 40<=281474976710656)
 (hcl:cs.length=n * 2) (hvl:vs.length=m * 2)
 (hcs:∀j v,cs[j]? = some v->w.cell? ⟨b,off+j,none⟩=some v)
 (hvs:∀j v,vs[j]? = some v->w.cell? ⟨vb,voff+j,none⟩=some v) (h1c:∀v∈cs,v.oneCell'=true) (h1v:∀v∈vs,v.oneCell'=true):
 Calls Tryz.prog 189 #[.slice (some ⟨b,off,none⟩) n c,.int .i64 i,.slice (some ⟨vb,voff,none⟩) m vc] w fun e w'=>
  ∃(G:Nat) (ROW:BR),n+m<=G/\ROW.size=G * 2/\ROW.toList.take (i * 2)=cs.take (i * 2)/\e= .returned (.slice (some ⟨w.heap.size,0,none⟩) (n+m) G)/\G<=9223372036854775807/\
   w'=(((w.alloc (.cells ROW 255)).drew.setCells w.heap.size (i * 2) vs).drew).setCells w.heap.size ((i+m) * 2) (cs.drop (i * 2)):=by
 have mixed:Tryz.prog.follows .mixedOrders=true:=by kernel_rfl
 obtain⟨i0,z0,hi0,hz0,hzs,hzb,hzc⟩:∃i0 z0,Tryz.prog.info? 255=some i0/\i0.zero=some z0/\i0.size=2/\i0.bytes=40/\z0.cells.size=2:=⟨Tryz.t255,Tryz.t255.zero.getD default,by kernel_rfl,by kernel_rfl,by kernel_rfl,by kernel_rfl,by kernel_rfl⟩
 have hz1:¬((m:Int)=0):=by omega
 have hz2:¬((i:Int)=(n:Int)):=by omega
 have hz3:(c:Int) < (n:Int)+(m:Int):=by omega
 have hsz:(Tryz.prog.info? 255).map (·.size)=some 2:=by rw[hi0];simp[hzs]
 have hbw:b < w.heap.size:=block_lt_of_cell (hcs 0 _ (Jj (by omega)));have hvw:vb < w.heap.size:=block_lt_of_cell (hvs 0 _ (Jj (by omega)));have hkk:(n:Int)+(m:Int) - (i:Int)=((n+m - i:Nat):Int):=by omega
 have hik:i+(n+m - i)=n+m:=by omega
 have hold:(Builtin.firstCells i0.size i (.slice (some ⟨b,off,none⟩) i c)).run Tryz.prog w.drew= .ok (cs.take (i * 2)).toArray w.drew:=by
  rw[hzs];exact run_firstCells_some w.drew 2 i ⟨b,off,none⟩ i c (cs.take (i * 2)) (by rw[Rg];omega) (fun j v hj=>by
   rw[Addr.add_lit];rw[mM]at hj;split at hj
   ·exact hcs j v hj
   ·cases hj)
 have hncl:=Ja (need:=n+m) (cap:=c) hroom;have hfits:Builtin.nextslicecap (n+m) c * 40<=281474976710656:=wQ (di _ hncl) hbig;have hrz:∀ty,(Builtin.append_ #[227,3] ty #[.slice (some ⟨b,off,none⟩) i c,.int .i64 ((n:Int)+(m:Int) - (i:Int))]).run Tryz.prog w=
  .ok (.slice (some ⟨w.heap.size,0,none⟩) (n+m) (grownCap w (n+m) c 255)) (w.drew.alloc (.cells ((cs.take (i * 2)).toArray++Builtin.zeroCells z0.cells (n+m - i)++Builtin.zeroCells z0.cells (grownCap w (n+m) c 255 - (n+m))) 255)):=fun ty=>by
  have h:=Lib.run_append_grow_zeros w 227 3 ty 255 i0 _ .i64 .i64 Tryz.underlying227 Tryz.underlying3 hi0 hz0 (some ⟨b,off,none⟩) i c (cs.take (i * 2)) hold (n+m - i) (by omega) (by omega) (by omega) (by omega) (by rw[hzb];omega) (by rw[hzb,hik];exact hfits);rw[hik]at h;rw[hkk];exact h
 obtain⟨G,hG⟩:∃G,G=grownCap w (n+m) c 255:=⟨_,rfl⟩
 have hGn:n+m<=G:=by rw[hG];exact grownCap_ge w _ _ _
 obtain⟨ROW,hROW⟩:∃ROW:BR,ROW=(cs.take (i * 2)).toArray++Builtin.zeroCells z0.cells (n+m - i)++Builtin.zeroCells z0.cells (G - (n+m)):=⟨_,rfl⟩
 rw[<-hG]at hrz;rw[<-hROW]at hrz;have hRl:ROW.size=G * 2:=by
  rw[hROW];simp[Eh,hzc,hcl];omega
 have hRt:ROW.toList.take (i * 2)=cs.take (i * 2):=by
  rw[hROW];simp only[pJ,aU];rw[Zq (by simp[hcl];omega),tV,ABG]
 obtain⟨W1,hW1⟩:∃W1,W1=w.drew.alloc (.cells ROW 255):=⟨_,rfl⟩
 rw[<-hW1]at hrz;have hN:∀j,j < (n+m) * 2->(W1.cell? ⟨w.heap.size,j,none⟩).isSome=true:=fun j hj=>by
  rw[hW1,World.cell?_alloc_at (w:=w.drew) ROW _ w.heap.size j rfl,dm (by omega)];rfl
 have hNf:∀j,W1.frozen? ⟨w.heap.size,j,none⟩=false:=fun j=>by rw[hW1];exact World.frozen?_alloc_at (w:=w.drew) ROW _ w.heap.size j rfl
 have hOb:∀j v,w.cell? ⟨b,j,none⟩=some v->W1.cell? ⟨b,j,none⟩=some v:=fun j v h=>by rw[hW1,World.cell?_alloc_past (w:=w.drew) _ b j hbw];exact h
 have hOv:∀j v,w.cell? ⟨vb,j,none⟩=some v->W1.cell? ⟨vb,j,none⟩=some v:=fun j v h=>by rw[hW1,World.cell?_alloc_past (w:=w.drew) _ vb j hvw];exact h
 have hcpA:∀(W:World),(∀x,W.cell? x=W1.cell? x)->(∀x,W.frozen? x=W1.frozen? x)->∀ty dc,(Builtin.copy_ #[227,227] ty #[.slice (some ⟨w.heap.size,i * 2,none⟩) (n+m - i) dc,.slice (some ⟨vb,voff,none⟩) m vc]).run Tryz.prog W= .ok (goInt m) (W.setCells w.heap.size (i * 2) vs):=fun W hWc hWf ty dc=>
  Ck W _ _ ty 255 2 w.heap.size (i * 2) (n+m - i) dc ⟨vb,voff,none⟩ m vc m vs Tryz.underlying227 hsz (by simp only[AAv];split<;>omega) hvl
   (fun j v hj=>by rw[Addr.add_lit,hWc];exact hOv _ v (hvs j v hj))
   (fun j hj=>by rw[hWc];exact hN _ (by omega)) (fun j hj=>by rw[hWf];exact hNf _) h1v
 have hG63:G<=9223372036854775807:=by
  have:=grownCap_le_maxLen w (n+m) c 255 (by unfold maxLen;omega);rw[<-hG]at this;unfold maxLen at this;omega
 have hGi:¬(G=i):=by omega
 have hGim:¬(G=i+m):=by omega
 have hci:¬(c=i):=by omega
 have hbN:b≠w.heap.size:=by omega
 have hdl:(cs.drop (i * 2)).length=(n - i) * 2:=by rw[Tx,hcl,ABe]
 have hcpB:∀(W:World),(∀x,W.cell? x=(W1.setCells w.heap.size (i * 2) vs).cell? x)->(∀x,W.frozen? x=(W1.setCells w.heap.size (i * 2) vs).frozen? x)->∀ty dc sc,(Builtin.copy_ #[227,227] ty #[.slice (some ⟨w.heap.size,(i+m) * 2,none⟩) (n+m - (i+m)) dc,.slice (some ⟨b,off+i * 2,none⟩) (n - i) sc]).run Tryz.prog W= .ok (goInt ((n - i:Nat):Int)) (W.setCells w.heap.size ((i+m) * 2) (cs.drop (i * 2))):=fun W hWc hWf ty dc sc=>
  Ck W _ _ ty 255 2 w.heap.size ((i+m) * 2) (n+m - (i+m)) dc ⟨b,off+i * 2,none⟩ (n - i) sc (n - i) (cs.drop (i * 2)) Tryz.underlying227 hsz (by simp only[AAv];split<;>omega) hdl
   (fun j v hj=>by
    rw[Addr.add_lit,hWc,World.cell?_setCells_out _ _ _ _ _ (fun h _=>absurd h hbN),jV];exact hOb _ v (hcs (i * 2+j) v (by rwa [mX]at hj)))
   (fun j hj=>by rw[hWc];exact isSome_setCells _ _ _ _ (fun t ht=>hN _ (by omega)) _ (hN _ (by omega)))
   (fun j hj=>by rw[hWf,World.frozen?_setCells];exact hNf _) (fun v hv=>h1c v (yO hv))
 subst hW1;have hE1:∀x,((w.alloc (.cells ROW 255)).drew).cell? x=(w.drew.alloc (.cells ROW 255)).cell? x:=fun x=>rfl
 have hE2:∀x,((w.alloc (.cells ROW 255)).drew).frozen? x=(w.drew.alloc (.cells ROW 255)).frozen? x:=fun x=>rfl
 have hF1:∀x,(((w.alloc (.cells ROW 255)).drew.setCells w.heap.size (i * 2) vs).drew).cell? x=((w.drew.alloc (.cells ROW 255)).setCells w.heap.size (i * 2) vs).cell? x:=fun x=>rfl
 have hF2:∀x,(((w.alloc (.cells ROW 255)).drew.setCells w.heap.size (i * 2) vs).drew).frozen? x=((w.drew.alloc (.cells ROW 255)).setCells w.heap.size (i * 2) vs).frozen? x:=fun x=>rfl
 have hw1:IntKind.i64.wrap ((i:Int)+(m:Int))=(i:Int)+(m:Int):=by rw[IntKind.wrap_i64];omega
 have hb1:(0:Int)<=(i:Int)+(m:Int):=by omega
 have hin:i<=n:=by omega
 have htn:((i:Int)+(m:Int)).toNat=i+m:=by omega
 have hb3:(i:Int)<=(n:Int):=by omega
 clear hkk hik hold hROW hG hncl hfits
 go_enter Tryz.func189,Tryz.ntmps189
 go_wp2_with (first
  | (at_builtin;refine Lib.wpList_append_run _ rfl _ _ _ _ rfl _ _ rfl rfl _ _ (hrz _) ?_)
  | (at_builtin;refine wpList_copy_runI _ rfl _ _ 227 227 rfl _ _ rfl rfl (hcpA _ hE1 hE2 _ _) ?_)
  | (at_builtin;refine wpList_copy_runI _ rfl _ _ 227 227 rfl _ _ rfl rfl (hcpB _ (fun _=>rfl) (fun _=>rfl) _ _ _) ?_))
 go_region_law_o (refine step_copy_runI rfl _ _ 227 227 rfl (.slice (some ⟨w.heap.size,(i+m) * 2,none⟩) (n+m - (i+m)) (G - (i+m))) (.slice (some ⟨b,off+i * 2,none⟩) (n - i) (c - i)) (by simp[Act.eval,Act.put]) (by simp[Act.eval,Act.put]) (hcpB _ hF1 hF2 3 (G - (i+m)) (c - i)) ?_)
 go_wp2
 go_ret
 exact⟨G,ROW,hGn,hRl,hRt,rfl,hG63,rfl⟩
theorem eu (laid:Co):CY Tryz.prog laid 189 (Fl 2 40):=
 Jd ⟨_,_,show entry Tryz.prog 189=some (95,A9 Tryz.prog 189 []) by kernel_rfl⟩ (by decide) (by decide) MQ N9
end Go.AD
namespace Go.AD
open Classical in
def Nn (sz bytes:Nat):DO:=fun args H=>
 match args with
 | [.slice (some ⟨b,0,some q⟩) n cap,.int .i64 x,.slice (some ⟨vb,voff,none⟩) m _]=>
  match H.get b,H.get vb with
  | some (.vec k l false),some (.cells vcs ve false)=>
   if k.length=sz/\cap=Aa/\k.all SK.plain=true/\vb≠b/\m≠0/\ve≠1/\q+n<=l.length/\0<=x/\x < n/\BQ bytes (n+m)=true then
    match QV k m ((vcs.drop voff).take (m * k.length))with
    | some new=>some (.slice (some ⟨H.next,0,some 0⟩) (n+m) Aa,(H.del b).alloc (.vec k (((l.drop q).take n).take x.toNat++(new++((l.drop q).take n).drop x.toNat)) false))
    | none=>none
   else none
  | _,_=>none
 | _=>none
theorem Jg {a b:Nat} (h:Nat.beq a b=false):a≠b:=by
 rintro rfl;rw[VX]at h;cases h
theorem Gt {a b:Nat} (h:a≠b):Nat.beq a b=false:=by
 cases hq:Nat.beq a b
 ·rfl
 ·exact absurd (DN hq) h
section
variable {P:Program} {laid:Co}
theorem U9 {f:FuncId} {sz B:Nat} {E:TypeId} (ON:∃n c,entry P f=some (n,c)) (hk0:0 < sz) (hk1:sz≠1) (hS:Qm P f sz) (hG:UJ P f sz B E):CY P laid f (Nn sz B):=by
 refine⟨ON,?_⟩;intro base W0 μ H W args args' v H' hW h hl ha hF;unfold Nn at hF;split at hF
 ·rename_i b q n cap x vb voff m vcap;split at hF
  ·rename_i k l vcs ve hb hvb;split at hF
   ·rename_i hc;obtain⟨rfl,rfl,hpl,hne,hm0,hve,hq,hx0,hxn,hbig⟩:=hc;split at hF
    ·rename_i new hnew;obtain⟨i,rfl⟩:∃i:Nat,x=i:=⟨x.toNat,by omega⟩
     simp only[MG,C5,Si]at hF;obtain⟨rfl,rfl⟩:=hF;generalize hqq:args'.toList=qq at ha;cases ha with
     | cons h1 ha=>cases ha with
      | cons h2 ha=>cases ha with
       | cons h3 ha=>
        cases ha
        rcases GI h hb h1 with⟨h1f,hnr,_⟩ | ⟨_,hn0,_⟩
        rotate_left
        ·omega
        have hdv:=h.Ls hb fun T hT hv=>hnr T hT hv.2.1
        have hg:(H.put b (.cells (Ag k l) k.length false)).get b=some (.cells (Ag k l) k.length false):=by rw[AA.AU,MB rfl]
        have hgv:(H.put b (.cells (Ag k l) k.length false)).get vb=some (.cells vcs ve false):=by rw[AA.AU,JT hne];exact hvb
        have hT:∃T,μ b=some T:=by cases h1 with | Bk _ _ _ _ _ _ T hm _ _ _=>exact⟨T,hm⟩ | DW _ _ _ T _ hm _=>exact⟨T,hm⟩
        obtain⟨d1,d2,d3⟩:=Kk k (by omega) _ _ _ hnew;rw[tV,ABG]at d1;have hll:((vcs.drop voff).take (m * k.length)).length=m * k.length:=by rw[<-d1,BH,d2]
        have hmk:Nat.beq (m * k.length) 0=false:=Gt (ABX hm0 (by omega));have hsrc:EM k.length (.slice (some ⟨vb,voff,none⟩) m vcap) (H.put b (.cells (Ag k l) k.length false))=some (m,Ag k new):=by
         unfold EM;simp only[hmk,EB,hgv,hll,VX,C8,d1]
        have hold:((Ag k l).drop (q * k.length)).take (n * k.length)=Ag k ((l.drop q).take n):=by rw[Ei,D8]
        have hOl:(Ag k ((l.drop q).take n)).length=n * k.length:=by rw[BH,Rg,Tx,rH (by omega)]
        have hok:=ae k hpl;generalize hM:(l.drop q).take n=M at hold hOl ⊢;have hres:Ag k (M.take i++(new++M.drop i))=(Ag k M).take (i * k.length)++(Ag k new++(Ag k M).drop (i * k.length)):=by rw[Cj,Cj,D8,Ei]
        obtain⟨b5,b6⟩:=JC hbig;have hins:Fl k.length B [.slice (some ⟨b,q * k.length,none⟩) n Aa,.int .i64 (Int.ofNat i),.slice (some ⟨vb,voff,none⟩) m vcap] (H.put b (.cells (Ag k l) k.length false))=
         some (.slice (some ⟨H.next,0,none⟩) (n+m) (Aa+(n+m)),((H.put b (.cells (Ag k l) k.length false)).del b).alloc (.cells (Ag k (M.take i++(new++M.drop i))) k.length false)):=by
         unfold Fl;have g1:Nat.ble Aa Aa=true:=Ez (GO _);have g2:Nat.blt i n=true:=Ez (by omega);have g3:Nat.beq vb b=false:=Gt hne;have g4:Nat.beq m 0=false:=Gt hm0;have g5:Qj ((H.put b (.cells (Ag k l) k.length false)).get vb)=true:=by
          rw[hgv];unfold Qj;simp only[Gt hve,AA1]
         simp only[g1,g2,g3,g4,g5,yV,AA1,C8,hsrc];unfold oK;simp only[hg,hold,hOl,VX,hok,b5,b6,yV,C8,hres];rfl
        have hrun:=(Jd (laid:=laid) ON hk0 hk1 hS hG).2 base W0 μ _ W _ args' _ _ hW hdv hl (by rw[hqq];exact .cons h1f (.cons h2 (.cons h3 .nil))) hins;refine Calls.mono hrun ?_;rintro e W' ⟨v',μ',rfl,r2,r3,r4⟩;obtain⟨g1,g2⟩:=F4 (by omega) (H1:=H.del b) r2 r3 (fun p _=>by
         rw[AA.BU,AA.BU,AA.AU]
         by_cases e:p=b<;>simp[e]) rfl
        refine⟨v',μ',rfl,g1,g2,?_⟩;obtain⟨T,hT⟩:=hT;refine r4.congr (fun p hp hmp=>?_) (fun p hp hmp=>?_) rfl rfl
        ·have:p≠b:=by rintro rfl;rw[hT]at hmp;cases hmp
         rw[AA.AU,JT this]
        ·have:p≠b:=by rintro rfl;rw[hT]at hmp;cases hmp
         have hp:p < H.next:=hp;rw[AA.AM,AA.AM,JT (by show p≠H.next;omega),JT (by show p≠H.next;omega),AA.BU,AA.BU,AA.AU,JT this,JT this,JT this]
    ·cases hF
   ·cases hF
  ·cases hF
 ·cases hF
end
def Hz (sz bytes:Nat):DO:=fun args H=>
 match args with
 | [.slice (some ⟨b,0,some q⟩) n cap,.int .i64 x,.slice (some ⟨vb,voff,none⟩) m _]=>
  match H.get b,H.get vb with
  | some (.vec k l false),some (.cells vcs ve false)=>
   if k.length=sz/\cap=Aa/\vb≠b/\m≠0/\ve≠1/\q+n<=l.length/\0<=x/\x < n/\BQ bytes (n+m)=true/\(Ag k ((l.drop q).take n)).all Bh=true then
    match QV k m ((vcs.drop voff).take (m * k.length))with
    | some new=>if (Ag k new).all Bh=true then some (.slice (some ⟨H.next,0,some 0⟩) (n+m) Aa,(H.del b).alloc (.vec k (((l.drop q).take n).take x.toNat++(new++((l.drop q).take n).drop x.toNat)) false))else none
    | none=>none
   else none
  | _,_=>none
 | _=>none
def NG (sz bytes:Nat):HL:=fun args H K=>
 match args with
 | [.slice (some ⟨b,0,some q⟩) n cap,.int .i64 x,.slice (some ⟨vb,voff,none⟩) m _]=>
  match H.get b,H.get vb with
  | some (.vec k l false),some (.cells vcs ve false)=>
   bif Nat.beq k.length sz&&Nat.beq cap Aa&& !(Nat.beq vb b)&& !(Nat.beq m 0)&& !(Nat.beq ve 1)then
    match QV k m ((vcs.drop voff).take (m * k.length))with
    | some new=>bif (Ag k new).all Bh then(q+n<=l.length/\0<=x/\x < n/\BQ bytes (n+m)=true/\(Ag k ((l.drop q).take n)).all Bh=true)/\K (.slice (some ⟨H.next,0,some 0⟩) (n+m) Aa) ((H.del b).alloc (.vec k (((l.drop q).take n).take x.toNat++(new++((l.drop q).take n).drop x.toNat)) false))else False
    | none=>False
   else False
  | _,_=>False
 | _=>False
theorem WX {X:Ctx} {f:FuncId} {sz B:Nat} (hX:X.IN f=some (Hz sz B)) {args:AL} {H:AA} {K:Ih} (h:NG sz B args H K):∃v H',CP X f args .normal H=some (v,H')/\K v H':=by
 unfold NG at h;split at h
 ·rename_i b q n cap x vb voff m vcap;split at h
  ·rename_i k l vcs ve hb hvb;cases hc:(Nat.beq k.length sz&&Nat.beq cap Aa&& !(Nat.beq vb b)&& !(Nat.beq m 0)&& !(Nat.beq ve 1))
   ·rw[hc]at h;cases h
   ·rw[hc]at h;simp only[C8]at h;split at h
    ·rename_i new hnew;cases e6:(Ag k new).all Bh
     ·rw[e6]at h;exact h.elim
     rw[e6]at h;simp only[C8]at h;obtain⟨⟨e1,e2,e3,e4,e5⟩,hK⟩:=h;refine⟨_,_,?_,hK⟩;unfold CP;simp only[hX];unfold Hz;simp only[hb,hvb];simp only[Dg,sd]at hc;obtain⟨⟨⟨⟨c1,c2⟩,c4⟩,c5⟩,c6⟩:=hc;rw[MB ⟨DN c1,DN c2,Jg c4,Jg c5,Jg c6,e1,e2,e3,e4,e5⟩];simp only[hnew];rw[MB e6]
    ·cases h
  ·cases h
 ·cases h
section
variable {P:Program} {laid:Co}
theorem XA {f:FuncId} {sz B:Nat} {E:TypeId} (ON:∃n c,entry P f=some (n,c)) (hk0:0 < sz) (hk1:sz≠1) (hS:Qm P f sz) (hG:UJ P f sz B E):CY P laid f (Hz sz B):=by
 refine⟨ON,?_⟩;intro base W0 μ H W args args' v H' hW h hl ha hF;unfold Hz at hF;split at hF
 ·rename_i b q n cap x vb voff m vcap;split at hF
  ·rename_i k l vcs ve hb hvb;split at hF
   ·rename_i hc;obtain⟨rfl,rfl,hne,hm0,hve,hq,hx0,hxn,hbig,hok1⟩:=hc;split at hF
    ·rename_i new hnew;obtain⟨i,rfl⟩:∃i:Nat,x=i:=⟨x.toNat,by omega⟩
     split at hF
     rotate_left
     ·cases hF
     rename_i hok2;simp only[MG,C5,Si]at hF;obtain⟨rfl,rfl⟩:=hF;generalize hqq:args'.toList=qq at ha;cases ha with
     | cons h1 ha=>cases ha with
      | cons h2 ha=>cases ha with
       | cons h3 ha=>
        cases ha
        rcases GI h hb h1 with⟨h1f,hnr,_⟩ | ⟨_,hn0,_⟩
        rotate_left
        ·omega
        have hdv:=h.Ls hb fun T hT hv=>hnr T hT hv.2.1
        have hg:(H.put b (.cells (Ag k l) k.length false)).get b=some (.cells (Ag k l) k.length false):=by rw[AA.AU,MB rfl]
        have hgv:(H.put b (.cells (Ag k l) k.length false)).get vb=some (.cells vcs ve false):=by rw[AA.AU,JT hne];exact hvb
        have hT:∃T,μ b=some T:=by cases h1 with | Bk _ _ _ _ _ _ T hm _ _ _=>exact⟨T,hm⟩ | DW _ _ _ T _ hm _=>exact⟨T,hm⟩
        obtain⟨d1,d2,d3⟩:=Kk k (by omega) _ _ _ hnew;rw[tV,ABG]at d1;have hll:((vcs.drop voff).take (m * k.length)).length=m * k.length:=by rw[<-d1,BH,d2]
        have hmk:Nat.beq (m * k.length) 0=false:=Gt (ABX hm0 (by omega));have hsrc:EM k.length (.slice (some ⟨vb,voff,none⟩) m vcap) (H.put b (.cells (Ag k l) k.length false))=some (m,Ag k new):=by
         unfold EM;simp only[hmk,EB,hgv,hll,VX,C8,d1]
        have hold:((Ag k l).drop (q * k.length)).take (n * k.length)=Ag k ((l.drop q).take n):=by rw[Ei,D8]
        have hOl:(Ag k ((l.drop q).take n)).length=n * k.length:=by rw[BH,Rg,Tx,rH (by omega)]
        generalize hM:(l.drop q).take n=M at hold hOl hok1 ⊢;have hres:Ag k (M.take i++(new++M.drop i))=(Ag k M).take (i * k.length)++(Ag k new++(Ag k M).drop (i * k.length)):=by rw[Cj,Cj,D8,Ei]
        obtain⟨b5,b6⟩:=JC hbig;have hins:Fl k.length B [.slice (some ⟨b,q * k.length,none⟩) n Aa,.int .i64 (Int.ofNat i),.slice (some ⟨vb,voff,none⟩) m vcap] (H.put b (.cells (Ag k l) k.length false))=
         some (.slice (some ⟨H.next,0,none⟩) (n+m) (Aa+(n+m)),((H.put b (.cells (Ag k l) k.length false)).del b).alloc (.cells (Ag k (M.take i++(new++M.drop i))) k.length false)):=by
         unfold Fl;have g1:Nat.ble Aa Aa=true:=Ez (GO _);have g2:Nat.blt i n=true:=Ez (by omega);have g3:Nat.beq vb b=false:=Gt hne;have g4:Nat.beq m 0=false:=Gt hm0;have g5:Qj ((H.put b (.cells (Ag k l) k.length false)).get vb)=true:=by
          rw[hgv];unfold Qj;simp only[Gt hve,AA1]
         simp only[g1,g2,g3,g4,g5,yV,AA1,C8,hsrc];unfold oK;simp only[hg,hold,hOl,VX,hok1,hok2,b5,b6,yV,C8,hres];rfl
        have hrun:=(Jd (laid:=laid) ON hk0 hk1 hS hG).2 base W0 μ _ W _ args' _ _ hW hdv hl (by rw[hqq];exact .cons h1f (.cons h2 (.cons h3 .nil))) hins;refine Calls.mono hrun ?_;rintro e W' ⟨v',μ',rfl,r2,r3,r4⟩;obtain⟨g1,g2⟩:=F4 (by omega) (H1:=H.del b) r2 r3 (fun p _=>by
         rw[AA.BU,AA.BU,AA.AU]
         by_cases e:p=b<;>simp[e]) rfl
        refine⟨v',μ',rfl,g1,g2,?_⟩;obtain⟨T,hT⟩:=hT;refine r4.congr (fun p hp hmp=>?_) (fun p hp hmp=>?_) rfl rfl
        ·have:p≠b:=by rintro rfl;rw[hT]at hmp;cases hmp
         rw[AA.AU,JT this]
        ·have:p≠b:=by rintro rfl;rw[hT]at hmp;cases hmp
         have hp:p < H.next:=hp;rw[AA.AM,AA.AM,JT (by show p≠H.next;omega),JT (by show p≠H.next;omega),AA.BU,AA.BU,AA.AU,JT this,JT this,JT this]
    ·cases hF
   ·cases hF
  ·cases hF
 ·cases hF
end
end Go.AD
namespace Go.AD
open Go.Proofs
structure Mt (q:Int) (a:As) (d:Bool) (o z:Int):Prop where
 key:I1 a=0
 q0:1<=q
 q1:q<=1099511627776
 o0:0<=o
 z0:(16+a.size:Nat)<=z
 zd:z=(16+a.size:Nat)∨d=false
 z1:z<=8192
 oz:o<=8192 - z
def xn (args:AL) (objs:BN):GT:=match args,objs with
 | [.agg ⟨[.int .i64 q,.string a,.bool d,.int .i64 _,.int .i64 o,.int .i64 z]⟩],[]=> .ask (Mt q a d o z) (.ret ⟨.bool true,[],[]⟩)
 | _,_=> .fail
def nF:List GA:=[gM]
theorem pP:Ci nF:= .other XX aD .nil
abbrev vm:Ctx:=Bp Tryz.prog AI (Cv nF)
theorem wq (q:Int) (a:As) (d:Bool) (s o z:Int) (Q:Bm):CU vm (Ax nF) [] DK [] 20 Q 300 (st DK [G6 q a d s o z] (hp []))=(
 let c:=o<=IntKind.wrap .i64 (8192 - z);let b:Prop:=Q (.bool false) [];(bif I1 a==0 then(bif decide (q≥1)then(bif decide (q<=1099511627776)then(bif decide (o≥0)then(bif decide (z≥IntKind.wrap .i64 (16+Int.ofNat a.size))then(bif z==IntKind.wrap .i64 (16+Int.ofNat a.size)then(bif decide (z<=8192)then(bif decide c then(Q (.bool true) [])else b)else b)else(bif d then b else(bif decide (z<=8192)then(bif decide c then(Q (.bool true) [])else b)else b)))else b)else b)else b)else b)else b)):=by kernel_rfl
def J9 (args:AL) (objs:BN):GT:=match args,objs with
 | [.slice (some ⟨20,0,some 0⟩) n c,.int .i64 x,.slice (some ⟨21,0,none⟩) 1 1],[.vec [.int .i64,.str,.bool,.int .i64,.int .i64,.int .i64] l _,.cells [.int .i64 q,.string a,.bool d,.int .i64 s,.int .i64 o,.int .i64 z] 6 _]=>
  .ask (n=l.length/\c=18446744073709551616/\x=n/\n < 90000) (.ret ⟨.slice (some ⟨22,0,some 0⟩) (n+1) 18446744073709551616,[none,none],[.vec Ah (l++[(q,a,d,s,o,z)]) false]⟩)
 | [.slice none 0 0,.int .i64 (.ofNat 0),.slice (some ⟨20,0,none⟩) 1 1],[.cells [.int .i64 q,.string a,.bool d,.int .i64 s,.int .i64 o,.int .i64 z] 6 _]=> .ret ⟨.slice (some ⟨21,0,some 0⟩) 1 18446744073709551616,[none],[.vec Ah [(q,a,d,s,o,z)] false]⟩
 | _,_=> .fail
def eV (q:Int) (a:As) (d:Bool) (s o z:Int):AL:=[int q,.string a,.bool d,int s,int o,int z]
theorem sG (l:List (EK.C Ah)) (q:Int) (a:As) (d:Bool) (s o z:Int) (n:Nat) (x:Int) (Q:Bm):CU X0 Cz [] Ar [] 22 Q 300 (st Ar [Ao 20 n,int x,.slice (some ⟨21,0,none⟩) 1 1] (hp [.vec Ah l false,.cells (eV q a d s o z) 6 true]))=(
 (bif decide (0<=Int.ofNat n)&&Nat.ble (Int.ofNat n).toNat n&&decide (0<=x)&&Nat.ble x.toNat (Int.ofNat n).toNat then(bif x==Int.ofNat n then(bif true&&Nat.ble (0+n) l.length&&BQ 56 (n+1)then(Q (Ao 22 (n+1)) [some (.vec ([SK.int IntKind.i64]++([SK.str]++([SK.bool]++([SK.int IntKind.i64]++([SK.int IntKind.i64]++([SK.int IntKind.i64]++[])))))) (List.take n (List.drop 0 l)++[(q,a,d,s,o,z)]) false)])else False)else False)else False)):=by kernel_rfl
theorem tI (q:Int) (a:As) (d:Bool) (s o z:Int) (Q:Bm):CU X0 Cz [] Ar [21] 21 Q 300 (st Ar [.slice none 0 0,int 0,.slice (some ⟨20,0,none⟩) 1 1] (hp [.cells (eV q a d s o z) 6 false]))=(
 let b:AP:= .cells [(int q),(.string a),(.bool d),(int s),(int o),(int z)] 6 false;(Q (.slice (some ⟨21,0,none⟩) 1 18446744073709551617) [some b,some b])):=by kernel_rfl
theorem el:CY Tryz.prog AI DK (Ai AI 20 [] xn):=by
 refine BF pP.all (by kernel_rfl) (n:=BD DK) (by kernel_rfl) (by kernel_rfl) fun argsc objs x hx hro=>?_
 clear hro;unfold xn at hx;split at hx
 ·rename_i q a d s o z;simp only[GT.run]at hx;split at hx
  ·rename_i h;cases hx
   have ha:=(Sn h.key).2;have hv:CU vm (Ax nF) [] DK [] 20 (fun v _=>v= .bool true) 300 (st DK [G6 q a d s o z] (hp [])):=by
    rw[wq];(conv=>zeta)
    have e1:IntKind.wrap .i64 (16+Int.ofNat a.size)=((16+a.size:Nat):Int):=by show IntKind.wrap .i64 (16+(a.size:Int))=_;rw[wrap64 (by omega) (by omega)];omega
    have z0:=h.z0;have z1:=h.z1;have e2:IntKind.wrap .i64 (8192 - z)=8192 - z:=by rw[Jy (by omega) (by omega)]
    rw[e1,e2];refine AB (by rw[h.key];rfl) (AB (KE h.q0) (AB (KE h.q1) (AB (KE h.o0) (AB (KE h.z0) (BX (fun _=>AB (KE h.z1) (AB (KE h.oz) rfl)) fun c=>?_)))));rcases h.zd with hz | hd
    ·rw[hz]at c;simp at c
    ·exact AZ hd (AB (KE h.z1) (AB (KE h.oz) rfl))
   exact⟨BE (by kernel_rfl),Ak.mono (AX.Fh (BK pP.pf (by kernel_rfl) hv)) fun v H e=>by have e:v=_:=e;subst e;exact Ch rfl⟩
  ·cases hx
 ·cases hx
theorem T9:CY Tryz.prog AI Ar (Ai AI 20 [true,false] J9):=by
 refine BF (CO.nil _ _) (by kernel_rfl) (n:=BD Ar) (by kernel_rfl) (by kernel_rfl) fun argsc objs x hx hro=>?_
 unfold J9 at hx;split at hx
 ·rename_i n c x0 l ro q a d s o z ro2;simp only[GT.run]at hx;split at hx
  ·rename_i hc;cases hx
   obtain⟨rfl,rfl,rfl,hb⟩:=hc;have hr0:ro=false:=hro 0 _ rfl rfl;subst hr0;refine⟨BE (by kernel_rfl),?_⟩;have hv:CU X0 Cz [] Ar [] 22 (fun v os=>v=Ao 22 (l.length+1)/\os=[some (.vec Ah (l++[(q,a,d,s,o,z)]) false)]) 300 (st Ar [Ao 20 l.length,int l.length,.slice (some ⟨21,0,none⟩) 1 1] (hp [.vec Ah l false,.cells (eV q a d s o z) 6 true])):=by
    rw[sG,bl,Nw (GO _),MG];have e0:Int.toNat (Int.ofNat l.length)=l.length:=rfl;rw[e0];have nb:Nat.ble l.length l.length=true:=Ez (GO _);refine AB ?_ (AB ?_ (AB ?_ ⟨rfl,rfl⟩))
    ·rw[nb,KE (show(0:Int)<=(l.length:Int) by omega),show decide (0<=Int.ofNat l.length)=true from KE (uf _)];rfl
    ·exact AAS (l.length:Int)
    ·rw[RP,nb,Lu (by omega)];rfl
   refine Ak.mono (AX.Fh (BK (CB _) (by kernel_rfl) hv)) fun v H h=>?_
   obtain⟨e,hos⟩:=h;subst e;have hos:[H.get 22]=_:=hos;simp only[Nh,iy]at hos;refine⟨[22],by simp,fun b hb=>by rw[Q4]at hb;rw[hb];exact(show 22<=22 from GO _),rfl,rfl,fun j b o hj hp=>?_,fun j o hj hm ho=>?_⟩
   ·cases j with
    | zero=>cases hj;cases hp;exact⟨_,rfl,hos⟩
    | succ j=>cases hj
   ·cases j with
    | zero=>cases ho
    | succ j=>cases j<;>cases ho
  ·cases hx
 ·rename_i q a d s o z ro;cases hx
  have hr0:ro=false:=hro 0 _ rfl rfl;subst hr0;refine⟨BE (by kernel_rfl),?_⟩;have hv:CU X0 Cz [] Ar [21] 21 (fun v os=>v= .slice (some ⟨21,0,none⟩) 1 18446744073709551617/\os=[some (.cells (eV q a d s o z) 6 false),some (.cells (eV q a d s o z) 6 false)]) 300 (st Ar [.slice none 0 0,int 0,.slice (some ⟨20,0,none⟩) 1 1] (hp [.cells (eV q a d s o z) 6 false])):=by
   rw[tI];exact⟨rfl,rfl⟩
  refine Ak.row (k:=Ah) (AX.Fh (BK (CB _) (by kernel_rfl) hv)) fun v H h=>?_
  obtain⟨e,hos⟩:=h;subst e;have hos:[H.get 21,H.get 21]=_:=hos;simp only[Nh,iy]at hos;refine⟨21,1,[(q,a,d,s,o,z)],by unfold Aa;rfl,hos.1,[21],by simp,fun b hb=>by rw[Q4]at hb;rw[hb];exact(show 21<=21 from GO _),rfl,by unfold Aa;rfl,fun j b o hj hp=>?_,fun j o hj hm ho=>?_⟩
  ·cases j with
   | zero=>cases hj;cases hp;exact⟨_,rfl,by rw[AA.AU,MB rfl]⟩
   | succ j=>cases hj
  ·cases j<;>cases ho
 ·cases hx
def HF (l:Aw) (i:Nat) (e:NQ):Aw:=l.take i++(e::l.drop i)
theorem NP {l:Aw} {i:Nat} (h:i<=l.length) (e:NQ):(HF l i e).length=l.length+1:=by
 unfold HF;simp only[Pq,Rg,bT,Tx];omega
theorem gJ {H:AA} {b vb:Nat} {l:Aw} {q:Int} {a:As} {d:Bool} {s o z:Int} (hb:20<=b) (hv:20<=vb) (hne:b≠vb) (hl:l.length < 90000) (gb:H.get b=some (.vec Ah l false)) (gv:H.get vb=some (.cells (eV q a d s o z) 6 false)):
 Ai AI 20 [true,false] J9 [.slice (some ⟨b,0,some 0⟩) l.length 18446744073709551616,.int .i64 (l.length:Int),.slice (some ⟨vb,0,none⟩) 1 1] H=some (.slice (some ⟨H.next,0,some 0⟩) (l.length+1) 18446744073709551616,(H.del b).alloc (.vec Ah (l++[(q,a,d,s,o,z)]) false)):=by
 have n1:Nat.blt b 20=false:=by
  cases h:Nat.blt b 20
  ·rfl
  ·have:b < 20:=BE h;omega
 have n2:Nat.blt vb 20=false:=by
  cases h:Nat.blt vb 20
  ·rfl
  ·have:vb < 20:=BE h;omega
 have n3:Nat.beq vb b=false:=Gt (gi hne);have n4:Nat.beq b vb=false:=Gt hne;have hr:Cr H 20 200 ([Value.slice (some ⟨b,0,some 0⟩) l.length 18446744073709551616,.int .i64 (l.length:Int),.slice (some ⟨vb,0,none⟩) 1 1].flatMap (Au 4)) []=[b,vb]:=by
  show Cr H 20 200 [b,vb] []=[b,vb];rw[Cr,n1];simp only[List.any_nil,ABA,EB,gb];show Cr H 20 199 ([]++[vb]) ([]++[b])=_;rw[ic,ic,Cr,n2];simp only[List.any_cons,List.any_nil,n3,ABA,EB,gv];show Cr H 20 198 ([]++[]) ([b]++[vb])=_;rfl
 unfold Ai;rw[hr];have hin:∀x,Oa AI 20 [b,vb] x=bif Nat.blt x 20 then Mx AI 20 x else(bif Nat.beq x b then some 20 else bif Nat.beq x vb then some 21 else none):=fun x=>rfl
 have i1:Oa AI 20 [b,vb] b=some 20:=by rw[hin,n1,VX];rfl
 have i2:Oa AI 20 [b,vb] vb=some 21:=by rw[hin,n2,n3,VX];rfl
 have ha:DB (Dr (Oa AI 20 [b,vb])) [Value.slice (some ⟨b,0,some 0⟩) l.length 18446744073709551616,.int .i64 (l.length:Int),.slice (some ⟨vb,0,none⟩) 1 1]=some [.slice (some ⟨20,0,some 0⟩) l.length 18446744073709551616,.int .i64 (l.length:Int),.slice (some ⟨21,0,none⟩) 1 1]:=by
  simp only[DB,Dr,B7,Je,i1,i2,dH]
 have ho:WS (Oa AI 20 [b,vb]) H [b,vb]=some [.vec Ah l false,.cells (eV q a d s o z) 6 false]:=by
  simp only[WS,gb,gv];rfl
 have hm:Iq [true,false] H 0 [b,vb]=true:=by
  simp only[Iq,gb,gv];rfl
 simp only[ha,ho,hm,C8];have hg:(J9 [.slice (some ⟨20,0,some 0⟩) l.length 18446744073709551616,.int .i64 (l.length:Int),.slice (some ⟨21,0,none⟩) 1 1] [.vec Ah l false,.cells (eV q a d s o z) 6 false]).run=some ⟨.slice (some ⟨22,0,some 0⟩) (l.length+1) 18446744073709551616,[none,none],[.vec Ah (l++[(q,a,d,s,o,z)]) false]⟩:=by
  have hp0:l.length=l.length/\(18446744073709551616:Nat)=18446744073709551616/\(l.length:Int)=(l.length:Nat)/\l.length < 90000:=⟨rfl,rfl,rfl,hl⟩;show(GT.ask (l.length=l.length/\(18446744073709551616:Nat)=18446744073709551616/\(l.length:Int)=(l.length:Nat)/\l.length < 90000) (.ret ⟨.slice (some ⟨22,0,some 0⟩) (l.length+1) 18446744073709551616,[none,none],[.vec Ah (l++[(q,a,d,s,o,z)]) false]⟩)).run=_;generalize (l.length=l.length/\(18446744073709551616:Nat)=18446744073709551616/\(l.length:Int)=(l.length:Nat)/\l.length < 90000)=p at hp0;simp only[GT.run];rw[MB hp0]
 rw[hg];rfl
def ba:DO:=fun args H=>match args with
 | [.slice (some ⟨b,0,some 0⟩) n 18446744073709551616,.int .i64 (.ofNat x),.slice (some ⟨vb,0,none⟩) 1 1]=>match H.get b,H.get vb with
  | some (.vec [.int .i64,.str,.bool,.int .i64,.int .i64,.int .i64] l false),some (.cells [.int .i64 q,.string a,.bool d,.int .i64 s,.int .i64 o,.int .i64 z] 6 false)=>
   bif Nat.beq n l.length&&Nat.ble x n&&Nat.blt n 90000&& !(Nat.beq b vb)&&Nat.ble 20 b&&Nat.ble 20 vb then some (.slice (some ⟨H.next,0,some 0⟩) (n+1) 18446744073709551616,(H.del b).alloc (.vec Ah (HF l x (q,a,d,s,o,z)) false))else none
  | _,_=>none
 | [.slice none 0 0,.int .i64 0,.slice (some ⟨vb,0,none⟩) 1 1]=>Ai AI 20 [true,false] J9 [.slice none 0 0,.int .i64 0,.slice (some ⟨vb,0,none⟩) 1 1] H
 | _=>none
def Z1:HL:=fun args H K=>match args with
 | [.slice (some ⟨b,0,some 0⟩) n 18446744073709551616,.int .i64 (.ofNat x),.slice (some ⟨vb,0,none⟩) 1 1]=>match H.get b,H.get vb with
  | some (.vec [.int .i64,.str,.bool,.int .i64,.int .i64,.int .i64] l false),some (.cells [.int .i64 q,.string a,.bool d,.int .i64 s,.int .i64 o,.int .i64 z] 6 false)=>
   bif !(Nat.beq b vb)&&Nat.ble 20 b&&Nat.ble 20 vb then((n=l.length/\x<=n/\n < 90000)/\K (.slice (some ⟨H.next,0,some 0⟩) (n+1) 18446744073709551616) ((H.del b).alloc (.vec Ah (HF l x (q,a,d,s,o,z)) false)))else False
  | _,_=>False
 | [.slice none 0 0,.int .i64 0,.slice (some ⟨vb,0,none⟩) 1 1]=>Cs AI 20 [true,false] J9 [.slice none 0 0,.int .i64 0,.slice (some ⟨vb,0,none⟩) 1 1] H K
 | _=>False
theorem W3:Xf ba Z1:=fun X f hX args H K h=>by
 unfold Z1 at h;split at h
 ·rename_i b n x vb;split at h
  ·rename_i l q a d s o z hb hv;cases hc:(!(Nat.beq b vb)&&Nat.ble 20 b&&Nat.ble 20 vb)
   ·simp only[hc,EB]at h
   ·simp only[hc,C8]at h;obtain⟨⟨rfl,hx,hl⟩,hK⟩:=h;refine⟨_,_,?_,hK⟩;simp only[Dg]at hc;unfold CP;simp only[hX];unfold ba;simp only[hb,hv,VX,show Nat.ble x l.length=true from Ez hx,show Nat.blt l.length 90000=true from Ez hl,hc.1.1,hc.1.2,hc.2,yV,C8]
  ·exact h.elim
 ·rename_i vb;have hctx:(⟨X.P,X.laid,fun _=>some (Ai AI 20 [true,false] J9),X.BJ⟩:Ctx).IN f=some (Ai AI 20 [true,false] J9):=rfl;obtain⟨v,H',h1,h2⟩:=Gq hctx h;refine⟨v,H',?_,h2⟩;unfold CP at h1 ⊢;simp only[hX]at h1 ⊢;exact h1
 ·exact h.elim
theorem nD:CY Tryz.prog AI Ar (Nn 6 56):=U9 ⟨_,_,show entry Tryz.prog Ar=some (95,A9 Tryz.prog Ar []) by kernel_rfl⟩ (by decide) (by decide) Me No
theorem WM:CY Tryz.prog AI Ar ba:=by
 refine⟨T9.1,fun base W0 μ H W args args' v H' hW hH hl ha hF=>?_⟩;unfold ba at hF;split at hF
 ·rename_i b n x vb;split at hF
  ·rename_i l q a d s o z hb hv;cases hc:(Nat.beq n l.length&&Nat.ble x n&&Nat.blt n 90000&& !(Nat.beq b vb)&&Nat.ble 20 b&&Nat.ble 20 vb)
   ·simp only[hc,EB]at hF;cases hF
   ·simp only[hc,C8,C5,Si]at hF;obtain⟨rfl,rfl⟩:=hF;simp only[Dg,sd]at hc;obtain⟨⟨⟨⟨⟨c1,c2⟩,c3⟩,c4⟩,c5⟩,c6⟩:=hc;have c1:=DN c1;subst c1;have c2:=BE c2;have c3:l.length < 90000:=BE c3;have c4:=Jg c4;have c5:=BE c5;have c6:=BE c6
    by_cases hx:x < l.length
    ·refine nD.2 base W0 μ H W _ args' _ _ hW hH hl ha ?_;unfold Nn;simp only[hb,hv];have hx2:(Int.ofNat x) < (l.length:Int):=by show(x:Int) < _;omega
     rw[MB ⟨rfl,by unfold Aa;rfl,by rfl,gi c4,by decide,by decide,by omega,uf _,hx2,Lu (by omega)⟩];show some ((Value.slice (some ⟨H.next,0,some 0⟩) (l.length+1) Aa),(H.del b).alloc (.vec Ah (((l.drop 0).take l.length).take x++([(q,a,d,s,o,z)]++((l.drop 0).take l.length).drop x)) false))=_;rw[bl,Nw (GO _)];unfold Aa;rfl
    ·obtain rfl:x=l.length:=by omega
     refine T9.2 base W0 μ H W _ args' _ _ hW hH hl ha ?_;have:=gJ (H:=H) c5 c6 c4 c3 hb hv;have e:HF l l.length (q,a,d,s,o,z)=l++[(q,a,d,s,o,z)]:=by
      unfold HF;rw[qs,ABS]
     rw[e];exact this
  ·cases hF
 ·exact T9.2 base W0 μ H W _ args' _ _ hW hH hl ha hF
 ·cases hF
theorem eF {base:Env} {W0 W:World} {μ:Ae} {H:AA} (hW:Eb (bQ Tryz.prog AI) base W0) (hH:AJ base W0 μ H W) {fs:List (FuncId × DO)} (hfs:CO Tryz.prog AI fs) {f:FuncId} (he:entry Tryz.prog f=some (BD f,A9 Tryz.prog f []))
 {y c:Nat} {p1 o1 p2 o2:AP} {Ty Tc:Bc} (hy:H.get y=some p1) (hTy:μ y=some Ty) (hc:H.get c=some p2) (hTc:μ c=some Tc) (hr1:o1.ro=true) (hn1:o1.isAbs=false) (h1:∀(ν:Ae) (o':Obj),CZ μ Ty p1 o'->CZ ν Ty o1 o') (hro:o2.ro=true) (hna:o2.isAbs=false)
 (h2:∀(ν:Ae) (o':Obj),ν 20=some Ty->CZ μ Tc p2 o'->CZ ν Tc o2 o') {argsc:AL} {args':BR} (ha:∀ν:Ae,ν 20=some Ty->ν 21=some Tc->Am ν argsc args'.toList) (hn:argsc.length<=BD f) {v:Value} (hv:flat v=true)
 (hrun:AX (Bp Tryz.prog AI fs) 22 f (fun v' _=>v'=v) (st f argsc (hp [o1,o2]))):Calls Tryz.prog f args' W fun e W'=>∃v' μ',e= .returned v'/\AJ base W0 μ' H W'/\AH μ' v v'/\Ap μ H μ' H:=by
 have hW1:Eb (Bp Tryz.prog AI fs) (JE W) W:=by
  have:=hW.carry hH;unfold Eb at this ⊢;exact this
 obtain⟨s1,s2⟩:=QD (X:=Bp Tryz.prog AI fs) hW1 (none_le _) (fun _ hi=>hi) (n:=20) (Rt (by kernel_rfl));have s3:AJ (JE W) W (Gb (Bp Tryz.prog AI fs).laid) ⟨.leaf,20⟩ W:=s1.sub (H':=⟨.leaf,20⟩) (fun b o hb=>by rw[GM]at hb;cases hb) (by rw[Hu]);obtain⟨oy,hoy,hry⟩:=hH.obj y _ hy Ty hTy;obtain⟨oc,hoc,hrc⟩:=hH.obj c _ hc Tc hTc;have all0:∀b p,(⟨.leaf,20⟩:AA).get b=some p->p.ro=true/\p.isAbs=false:=fun b p hb=>by rw[GM]at hb;cases hb
 have s4:=s3.Ky all0 (o:=o1) (T:=Ty) hr1 hn1 hoy (h1 _ _ hry);have hle1:(Gb (Bp Tryz.prog AI fs).laid).le ((Gb (Bp Tryz.prog AI fs).laid).ext 20 Ty):=Ae.Cc _ (s3.fresh 20 (GO _)).2;have all1:∀b p,((⟨.leaf,20⟩:AA).alloc o1).get b=some p->p.ro=true/\p.isAbs=false:=fun b p hb=>by
  rw[AA.AM]at hb;split at hb
  ·cases hb;exact⟨hr1,hn1⟩
  ·rw[GM]at hb;cases hb
 have h20:((Gb (Bp Tryz.prog AI fs).laid).ext 20 Ty) 20=some Ty:=Ae.Af _ _ _;have s5:=s4.Ky all1 (o:=o2) (T:=Tc) hro hna hoc (h2 _ _ h20 hrc);have hle2:((Gb (Bp Tryz.prog AI fs).laid).ext 20 Ty).le (((Gb (Bp Tryz.prog AI fs).laid).ext 20 Ty).ext 21 Tc):=Ae.Cc _ (s4.fresh 21 (GO _)).2;have e:((⟨.leaf,20⟩:AA).alloc o1).alloc o2=hp [o1,o2]:=by kernel_rfl
 have s6:AJ (JE W) W (((Gb (Bp Tryz.prog AI fs).laid).ext 20 Ty).ext 21 Tc) (hp [o1,o2]) W:=by rw[<-e];exact s5
 have hlaid:Bj (Bp Tryz.prog AI fs) (((Gb (Bp Tryz.prog AI fs).laid).ext 20 Ty).ext 21 Tc):=(s2.mono hle1).mono hle2;refine(MS (hfs.IN _ _ hW1) (Hl (by kernel_rfl) rfl) he s6 hlaid (ha _ (hle2 _ _ h20) (Ae.Af _ _ _)) hn hrun hv).mono ?_;rintro e W' ⟨rfl,k1,k2,k3,k4⟩;exact⟨v,μ,rfl,hH.carry k3 k4 k2 k1,D5 hv,Ap.refl _ _⟩
def Se (l:List (EK.C [.tok])):List (EK.C [.tok]):=List.map (fun _=>Bv) l
theorem S9 {μ ν:Ae}:∀(l:List (EK.C [.tok])) (l':AL),Am μ (Ag [.tok] l) l'->Am ν (Ag [.tok] (Se l)) l'
 | [],l',h=>by cases h;exact .nil
 | x::r,l',h=>by
  have h:Am μ (x::Ag [.tok] r) l':=h;cases h with
  | cons h1 h2=>exact .cons (.Bv _) (S9 r _ h2)
theorem X4 {μ ν:Ae} {T:Bc} {l:List (EK.C [.tok])} {ro:Bool} {o':Obj} (h:CZ μ T (.vec [.tok] l ro) o'):CZ ν T (.vec [.tok] (Se l) true) o':=by
 cases h with
 | vec _ _ _ _ hc=>
  cases hc with
  | cells _ _ _ c t lo hi he hc hr hf=>
   refine .vec T [.tok] _ true _ (.cells T _ _ true c t lo hi he ?_ hr (fun e=>by cases e));have e:(Ag [.tok] (Se l)).length=(Ag [.tok] l).length:=by rw[BH,BH,Se,oB]
   rw[e];exact S9 l _ hc
 | Du _ _ _ he hr hk=>exact .Du T [.tok] true _ he hr hk
def Rq:DO:=fun args H=>match args with
 | [.pointer (some ⟨c,0,none⟩)]=>match H.get c with
  | some (.cells [.pointer (some _),.slice (some ⟨y,0,some 0⟩) n 18446744073709551616] 0 _)=>match H.get y with
   | some (.vec [.tok] _ _)=>bif Nat.blt 0 n then some (.bool true,H)else none
   | _=>none
  | _=>none
 | _=>none
def Vx:HL:=fun args H K=>match args with
 | [.pointer (some ⟨c,0,none⟩)]=>match H.get c with
  | some (.cells [.pointer (some _),.slice (some ⟨y,0,some 0⟩) n 18446744073709551616] 0 _)=>match H.get y with
   | some (.vec [.tok] _ _)=>0 < n/\K (.bool true) H
   | _=>False
  | _=>False
 | _=>False
theorem R4:Xf Rq Vx:=fun X f hX args H K h=>by
 unfold Vx at h;split at h
 ·rename_i c;split at h
  ·rename_i a y n ro hc;split at h
   ·rename_i l ro2 hy;refine⟨_,_,?_,h.2⟩;unfold CP;simp only[hX];unfold Rq;simp only[hc,hy,show Nat.blt 0 n=true from Ez h.1,C8]
   ·exact h.elim
  ·exact h.elim
 ·exact h.elim
theorem lX (l:List (EK.C [.tok])) (n:Nat) (Q:Bm):CU X0 Cz [] BZ [] 22 Q 100 (st BZ [At 21] (hp [.vec [.tok] l true,.cells [Bv,Ao 20 n] 0 true]))=bif decide (Int.ofNat n > 0)then Q (.bool true) []else Q (.bool false) []:=by kernel_rfl
theorem Qy:CY Tryz.prog AI BZ Rq:=by
 refine⟨⟨_,_,show entry Tryz.prog BZ=some (BD BZ,A9 Tryz.prog BZ []) by kernel_rfl⟩,?_⟩;intro base W0 μ H W args args' v H' hW hH hl ha hF;unfold Rq at hF;split at hF
 ·rename_i c;split at hF
  ·rename_i a y n ro hc;split at hF
   ·rename_i l ro2 hy;cases hb:Nat.blt 0 n
    ·simp only[hb,EB]at hF;cases hF
    ·simp only[hb,C8,C5,Si]at hF;obtain⟨rfl,rfl⟩:=hF;have hb:0 < n:=BE hb;generalize hqq:args'.toList=qq at ha;cases ha with
     | cons h1 ha=>
      cases ha
      obtain⟨Tc,hTc⟩:=K1 h1;have hy0:∃Ty,μ y=some Ty:=by
       obtain⟨oc,_,hrc⟩:=hH.obj c _ hc Tc hTc;cases hrc with
       | cells _ _ _ cc t lo hi he hcc hr hf=>
        have hcc:Am μ [Value.pointer (some a),Value.slice (some ⟨y,0,some 0⟩) n 18446744073709551616] (List.take 2 (List.drop Tc.d cc.toList)):=hcc;generalize List.take 2 (List.drop Tc.d cc.toList)=r at hcc;cases hcc with
        | cons g1 g2=>cases g2 with
         | cons g3 g4=>exact K7 g3
      obtain⟨Ty,hTy⟩:=hy0;refine eF hW hH (CO.nil _ _) (by kernel_rfl) hy hTy hc hTc (o1:= .vec [.tok] (Se l) true) rfl rfl (fun ν o' ho=>X4 ho) (o2:= .cells [Bv,Ao 20 n] 0 true) rfl rfl (fun ν o' e1 ho=>?_) (argsc:=[At 21]) (fun ν e1 e2=>?_) (BE (by kernel_rfl)) rfl ?_
      ·cases ho with
       | cells _ _ _ cc t lo hi he hcc hr hf=>
        refine .cells Tc _ 0 true cc t lo hi he ?_ hr (fun e=>by cases e);have hcc:Am μ [Value.pointer (some a),Value.slice (some ⟨y,0,some 0⟩) n 18446744073709551616] (List.take 2 (List.drop Tc.d cc.toList)):=hcc;show Am ν [Bv,Ao 20 n] (List.take 2 (List.drop Tc.d cc.toList));generalize List.take 2 (List.drop Tc.d cc.toList)=r at hcc;cases hcc with
        | cons g1 g2=>cases g2 with
         | cons g3 g4=>
          cases g4
          exact .cons (.Bv _) (.cons (g3.Rs hTy e1) .nil)
      ·rw[hqq];exact .cons (h1.Ya hTc e2) .nil
      ·have hv:CU X0 Cz [] BZ [] 22 (fun v _=>v= .bool true) 100 (st BZ [At 21] (hp [.vec [.tok] (Se l) true,.cells [Bv,Ao 20 n] 0 true])):=by
        rw[lX];exact AB (KE (by show(n:Int) > 0;omega)) rfl
       exact BK (CB _) (by kernel_rfl) hv
   ·cases hF
  ·cases hF
 ·cases hF
end Go.AD
namespace Go.AD
def O5 (fn depth len i:Nat) (c:BT):Bool:=match c with
 | ⟨⟨fn',_,_,.code (.seq (.region j _ _) _)::t,_,r,_,_⟩,cs,_⟩=> !r&&Nat.beq fn' fn&&Nat.beq cs.length depth&&Nat.beq t.length len&&Nat.beq j i
 | _=>false
def NH (X:Ctx) (pf:Pf) (hs:List (Nat × Value)) (f:FuncId) (ids:AW) (S:Stop) (h1:BT->Bool) (S2:Stop) (h2:BT->Bool) (ks:FV) (Q:Bm) (R R2:Bz) (n:Nat):Bz:=
 Nat.rec (motive:=fun _=>Bz) (fun _=>False) (fun _ ih c=>match FC X f c with
  | some (v,H)=>Q v ((ids++Au 4 v).map H.get)
  | none=>bif h1 c then(match S.MF X ks c with
   | some c2=>R c2
   | none=>False)
   else bif h2 c then(match S2.MF X ks c with
    | some c2=>R2 c2
    | none=>False)
   else match VL X c with
    | some (b,ct,cf)=>bif b then ih cf else(ih ct/\ih cf)
    | none=>Oe X pf hs c ih) n
theorem IH {X:Ctx} {pf:Pf} (hpf:HO X pf) {hs:List (Nat × Value)} {f:FuncId} {ids:AW} {M:Nat} {S S2:Stop} {h1 h2:BT->Bool} {ks:FV} (hl:(X.laid.all fun p=>Nat.blt p.1 M)=true) (hN:M<=S.N) (hN2:M<=S2.N) {Q:Bm} {R R2:Bz} {Q':Ih}
 (hQ:∀v H,Q v ((ids++Au 4 v).map H.get)->Q' v H) (hR:∀c,R c->AX X M f Q' c) (hR2:∀c,R2 c->AX X M f Q' c):∀(n:Nat) (c:BT),NH X pf hs f ids S h1 S2 h2 ks Q R R2 n c->AX X M f Q' c:=by
 have up:∀N,M<=N->(X.laid.all fun p=>Nat.blt p.1 N)=true:=fun N hMN=>by
  rw[AAW]at hl ⊢;intro p hp;exact Ez (wQ (BE (hl p hp)) hMN)
 intro n;induction n with
 | zero=>intro c h;cases h
 | succ n ih=>
  intro c h;have h:(match FC X f c with
   | some (v,H)=>Q v ((ids++Au 4 v).map H.get)
   | none=>bif h1 c then(match S.MF X ks c with
    | some c2=>R c2
    | none=>False)
    else bif h2 c then(match S2.MF X ks c with
     | some c2=>R2 c2
     | none=>False)
    else match VL X c with
     | some (b0,ct,cf)=>bif b0 then NH X pf hs f ids S h1 S2 h2 ks Q R R2 n cf else(NH X pf hs f ids S h1 S2 h2 ks Q R R2 n ct/\NH X pf hs f ids S h1 S2 h2 ks Q R R2 n cf)
     | none=>Oe X pf hs c (NH X pf hs f ids S h1 S2 h2 ks Q R R2 n)):=h
  split at h
  ·rename_i v H e;exact A5.here ⟨v,H,e,hQ v H h⟩
  ·cases hs:h1 c
   ·simp only[hs,EB]at h;cases hs2:h2 c
    ·simp only[hs2,EB]at h;split at h
     ·rename_i b0 ct cf hq;cases hb:b0
      ·simp only[hb,EB]at h;exact A5.bind (Reach.Uf (GZ (Φ:=fun c'=>NH X pf _ f ids S h1 S2 h2 ks Q R R2 n c') hq (fun _=>h.1) h.2)) fun c' hc=>ih c' hc
      ·simp only[hb,C8]at h;exact A5.bind (Reach.Uf (GZ (Φ:=fun c'=>NH X pf _ f ids S h1 S2 h2 ks Q R R2 n c') hq (fun e=>by rw[hb]at e;cases e) h)) fun c' hc=>ih c' hc
     ·exact A5.bind (Reach.Uf (KD hpf (KS h))) fun c' hc=>ih c' hc
    ·simp only[hs2,C8]at h;split at h
     ·rename_i c2 hc;exact Nb (X:=X) (S:=S2) hN2 (up _ hN2) hc (hR2 c2 h)
     ·cases h
   ·simp only[hs,C8]at h;split at h
    ·rename_i c2 hc;exact Nb (X:=X) (S:=S) hN (up _ hN) hc (hR c2 h)
    ·cases h
end Go.AD
namespace Go.AD
open Go.Proofs
theorem Vw:CY Tryz.prog AI Da (Ai AI 20 [] (SN Ah 56)):=N7 (by decide) (by decide) (by kernel_rfl) (by kernel_rfl) (fun l j n Q=>by kernel_rfl) (fun Q=>by kernel_rfl)
def tT (args:AL) (objs:BN):GT:=match args,objs with
 | [.slice (some ⟨20,0,some 0⟩) n 18446744073709551616,.agg ⟨[.int .i64 q,.string _,.bool _,.int .i64 s,.int .i64 _,.int .i64 _]⟩,.func (.func f) ⟨[]⟩ ⟨[]⟩],[.vec [.int .i64,.str,.bool,.int .i64,.int .i64,.int .i64] l _]=> .ask (n=l.length/\f=B8/\l.length < 1000000) (.ret ⟨.tuple ⟨[int (PH l.length (E5 l q s):Nat),Bv]⟩,[],[]⟩)
 | _,_=> .fail
theorem lj:CY Tryz.prog AI AT (Ai AI 20 [] tT):=by
 refine BF l9.all (by kernel_rfl) (n:=BD AT) (by kernel_rfl) (by kernel_rfl) fun argsc objs x hx hro=>?_
 clear hro;unfold tT at hx;split at hx
 ·rename_i n q a d s o z f l ro;simp only[GT.run]at hx;split at hx
  ·rename_i hp0;cases hx
   obtain⟨rfl,rfl,hb⟩:=hp0;refine⟨BE (by kernel_rfl),Ak.tell (Q:=fun v _=>v=mR l.length (E5 l q s) (PH l.length (E5 l q s))) (AX.Fh ?_) fun v H e=>?_⟩
   ·refine Bq l9.pf [] [] vE [] (by kernel_rfl) (show 21<=21 from GO _) (fun _ _=>False) (fun c=>c=oL l l.length q a d s o z 0 l.length) (fun v H h=>h.elim) (fun c h=>by rw[h];exact oO hb) (n:=200) (c:=st AT [Ao 20 l.length,G6 q a d s o z,.func (.func B8) ⟨[]⟩ ⟨[]⟩] (hp [.vec Ah l true])) ?_;rw[rJ];exact rfl
   ·subst e;refine⟨.tuple ⟨[int (PH l.length (E5 l q s):Nat),Bv]⟩,H,fun base W0 μ W v' _ hv hH=>⟨μ,Ae.le_refl _,hH,?_⟩,[],dG,fun b hb=>(by cases hb),rfl,rfl,fun j b o hj=>(by cases hj),fun j o hj hm=>(by cases hm)⟩;obtain⟨ys,rfl,h2⟩:=AH.CE.1 hv;refine AH.CE.2 ⟨ys,rfl,?_⟩;have h2:Am μ [int (PH l.length (E5 l q s):Nat),.bool (Z7 l.length (E5 l q s) (PH l.length (E5 l q s)))] ys.toList:=h2;show Am μ [int (PH l.length (E5 l q s):Nat),Bv] ys.toList;generalize ys.toList=yy at h2;cases h2 with
    | cons g1 g2=>cases g2 with
     | cons g3 g4=>exact .cons g1 (.cons (.Bv _) g4)
  ·cases hx
 ·cases hx
def eT (i:Nat) (b:Bool):List GA:=[(BZ,Rq,Vx),GQ DK [] xn,(A2,TV,aZ i b),GQ Da [] (SN Ah 56),(Ar,ba,Z1),GQ AK [] xg,GQ AT [] tT]
theorem q8 (i:Nat) (b:Bool):Ci (eT i b):= .other Qy R4 <| .cons el (.other TZ (Wm i b) (.cons Vw (.other WM W3 (.cons iZ (.cons lj .nil)))))
abbrev kG:Ctx:=Bp Tryz.prog AI (Cv (eT 0 true))
def Rh (ns nk:Nat) (row:List (EK.C [.tok])) (krow:Cq) (LS LK:FZ) (ls:Aw):BN:=[.cells [At 21,Ao 22 ns] 0 false,.cells [.bool true,Ao 23 nk] 0 false,.vec [.tok] row false,.vec EV krow false,.abs (.mem Ah LS) false,.abs (.mem Ah LK) false,.vec Ah ls false]
def lM (ns nk:Nat) (row:List (EK.C [.tok])) (krow:Cq) (LS LK:FZ) (ls lk:Aw):BN:=[.cells [At 21,Ao 22 ns] 0 false,.cells [.bool true,Ao 23 nk] 0 false,.vec [.tok] row false,.vec EV krow false,.abs (.mem Ah LS) false,.abs (.mem Ah LK) false,.vec Ah ls false,.vec Ah lk false]
def xG (n:Nat):Tr Value:=EZ [(0,At 20),(3,At 31),(4,At 32),(5,Ao 27 n),(7,At 30)]
def lQ (ns nk:Nat) (row:List (EK.C [.tok])) (krow:Cq) (LS LK:FZ) (ls lk:Aw) (n:Nat) (q:Int) (a:As) (d:Bool) (s:Nat) (o z:Int) (hv:Bool) (i:Int):BT:=
 ⟨⟨Az,EZ [(0,.func (.yield 29) ⟨[]⟩ ⟨[]⟩),(5,Ao 27 n),(6,int n),(7,int i)],BD Az,[.code (A9 Tryz.prog Az [1,0,0]),.inLoop (A9 Tryz.prog Az [1,0,0]),.inBlock 0],[],false,.normal,none⟩,
  [⟨D0,EZ [],BD D0,[GU (A9 Tryz.prog D0 [1,0,1]) 3],[],false,.normal,none⟩,
   ⟨AE,xG n,BD AE,[.inRangeFunc 29,.inBlock 1,.code (A9 Tryz.prog AE [1,1,1,1,1])],[⟨.collected 28,⟨[]⟩⟩],false,.normal,none⟩],
  (((((hp (lM ns nk row krow LS LK ls lk)).alloc (.deferred (some []))).alloc (.loop ⟨.ready,none,AE,xG n,BD AE,#[43],A9 Tryz.prog AE [1,1,1,1,0,1,0,0],A9 Tryz.prog AE [1,1,1,1,0,1,0,1],28⟩)).alloc (.cells [.bool hv] 0 false)).alloc (.cells (eV q a d s o z) 0 false)).alloc (.cells [int 0] 0 false)⟩
def ql:Stop:=⟨Az,2,2,28,[20,21,22,23,24,25,26,27],[0,5,6,7]⟩
def lL:FV:=[(D0,[]),(AE,[0,3,4,5,7])]
def xo (ids:AW) (l:List (EK.C [.tok])):List (EK.C [.tok]):=List.map (Np (Fw 28 ids)) l
def xc (ids:AW) (l:Cq):Cq:=YJ (Fw 28 ids) l
theorem rF (ns nk:Nat) (row:List (EK.C [.tok])) (krow:Cq) (LS LK:FZ) (ls lk:Aw) (q:Int) (a:As) (d:Bool) (s:Nat) (o z:Int) (i0 m n:Nat) (Q:Bm) (R:Bz):Iy kG (Ax (eT i0 true)) [(22,Ao 26 m),(23,Ao 27 n)] AE [20,21,22,23,24,25,26,27] ql lL Q R 600 (st AE [At 20,G6 q a d s o z] (hp (lM ns nk row krow LS LK ls lk)))=(
 let e:=((.bool true):Value)=(.bool true);let c:=nk=krow.length/\nk < 1000000/\DC krow a=i0/\IL krow a=true;let b:=IZ (SK.enc SK.tok (List.getD krow (0+(i0:Int).toNat) (EK.BL EV)).2) (Prod.snd (23,Ao 27 n));(0 < ns)/\(0 < ns)/\(bif decide ((s:Int) < Int.ofNat ns)then(Mt q a d o z)/\c/\(bif decide (0<=(i0:Int))&&Nat.blt (i0:Int).toNat nk then(bif Nat.blt (0+(i0:Int).toNat) krow.length then b/\e/\(0 < ns)/\c/\(bif decide (0<=(i0:Int))&&Nat.blt (i0:Int).toNat nk then(bif Nat.blt (0+(i0:Int).toNat) krow.length then b/\e/\(R (lQ ns nk (xo [33,34,30,28,29] row) (xc [33,34,30,28,29] krow) LS LK ls lk n q a d s o z false 0))else False)else False)else False)else False)else(Q (int 3) [some (.cells [(At 21),(Ao 22 ns)] 0 false),some (.cells [(.bool true),(Ao 23 nk)] 0 false),some (.vec [SK.tok] row false),some (.vec EV krow false),some (.abs (Ct.mem Ah LS) false),some (.abs (Ct.mem Ah LK) false),some (.vec Ah ls false),some (.vec Ah lk false)]))):=by kernel_rfl
def vG (ns nk:Nat) (row:List (EK.C [.tok])) (krow:Cq) (LS LK:FZ) (ls lk:Aw) (m n:Nat) (q:Int) (a:As) (d:Bool) (s:Nat) (o z:Int) (x:Nat):BT:=
 ⟨⟨AE,EZ [(0,At 20),(3,At 28),(4,At 29),(5,Ao 27 n),(10,int x),(12,Ao 26 m)],BD AE,[.code (A9 Tryz.prog AE [1,1,1,1,1,1,1,1,0]),.code (A9 Tryz.prog AE [1,1,1,1,1,1,1,1,1])],[⟨.collected 30,⟨[]⟩⟩],false,.normal,none⟩,[],
  (((hp (lM ns nk row krow LS LK ls lk)).alloc (.cells (eV q a d s o z) 0 false)).alloc (.cells [int 0] 0 false)).alloc (.deferred (some []))⟩
def rf:Stop:=⟨AE,0,0,28,[20,21,22,23,24,25,26,27],[0,3,4,5,10,12]⟩
abbrev J7 (ls:Aw) (o:Int):Nat:=PH ls.length (G8 ls o)
theorem p7 (ns nk:Nat) (row:List (EK.C [.tok])) (krow:Cq) (LS LK:FZ) (ls lk:Aw) (n:Nat) (q:Int) (a:As) (d:Bool) (s:Nat) (o z:Int) (hv:Bool) (i:Int) (i0 m:Nat) (Q:Bm) (R R2:Bz):NH kG (Ax (eT i0 true)) [(22,Ao 26 m),(23,Ao 27 n)] AE [20,21,22,23,24,25,26,27] ql (fun c=>ql.here c) rf (O5 AE 0 0 20) lL Q R R2 900 (lQ ns nk row krow LS LK ls lk n q a d s o z hv i)=(
 let G:AP:= .vec [SK.tok] row false;let F:AP:= .abs (Ct.mem Ah LK) false;let E:AP:= .abs (Ct.mem Ah LS) false;let D:=IntKind.wrap .i64 (i+1);let B:=EK.BL Ah;let A:Value:= .pointer (some ⟨31,4,none⟩);let y:=xo [28,29,30,31,32] row;let x:=xc [28,29,30,31,32] krow;let w:AP:= .cells [(At 21),(Ao 22 ns)] 0 false;let v:AP:= .cells [(.bool true),(Ao 23 nk)] 0 false;let r:=PH ls.length (G8 ls o);let t:=((.bool (Z7 ls.length (G8 ls o) r)):Value);let k:=IZ (SK.enc SK.tok (List.getD row (0+(s:Int).toNat) (EK.BL [SK.tok]))) (Prod.snd (22,Ao 26 m));let j:Prop:=R2 (vG ns nk (xo [31,32,28] row) (xc [31,32,28] krow) LS LK ls lk m n q a d s o z (J7 ls o));let h:=List.getD lk (0+i.toNat) B;let g:Prop:=R (lQ ns nk y x LS LK ls lk n q a d s o z true D);let f:Prop:=R (lQ ns nk y x LS LK ls lk n q a d s o z false D);let e:=(r:Int);let p:=IntKind.wrap .i64 (o+z) > (List.getD ls (0+e.toNat) B).2.2.2.2.1;let l:=IntKind.wrap .i64 (e - 1);let u:=List.getD ls (0+l.toNat) B;let b:Prop:=Q (int 6) [some w,some v,some G,some (.vec EV krow false),some E,some F,some (.vec Ah ls false),some (.vec Ah lk false)];(bif decide (i < (n:Int))then(bif decide (0<=i)&&Nat.blt i.toNat n then(bif Nat.blt (0+i.toNat) lk.length then(((int o):Value)=(int o))/\((A:Value)=A)/\(bif h.1==q then(bif !(h.1==q&&(ByteArray.toList h.2.1==ByteArray.toList a&&(h.2.2.1==d&&((s:Int)==(s:Int)&&(o==o&&(h.2.2.2.2.2==z&&true))))))then(Q (int 2) [some w,some v,some G,some (.vec EV krow false),some E,some F,some (.vec Ah ls false),some (.vec Ah lk false)])else(bif hv then g else(bif h.1==q then(bif h.2.2.2.1==(s:Int)then g else f)else f)))else(bif hv then g else(bif h.1==q then(bif h.2.2.2.1==(s:Int)then g else f)else f)))else False)else False)else(bif decide (0<=(s:Int))&&Nat.blt (s:Int).toNat ns then(bif Nat.blt (0+(s:Int).toNat) row.length then k/\(m=ls.length/\133=B5/\ls.length < 1000000)/\(bif Z7 ls.length (G8 ls o) r then(t=(.bool true))/\(bif decide (0<=(s:Int))&&Nat.blt (s:Int).toNat ns then(bif Nat.blt (0+(s:Int).toNat) row.length then k/\(bif hv then b else b)else False)else False)else(t=(.bool false))/\(bif decide (0<=(s:Int))&&Nat.blt (s:Int).toNat ns then(bif Nat.blt (0+(s:Int).toNat) row.length then k/\(bif hv then b else(bif decide (e > 0)then(bif decide (0<=IntKind.wrap .i64 (e - 1))&&Nat.blt l.toNat m then(bif Nat.blt (0+l.toNat) ls.length then(bif decide (0<=IntKind.wrap .i64 (e - 1))&&Nat.blt l.toNat m then(bif Nat.blt (0+l.toNat) ls.length then(bif decide (IntKind.wrap .i64 (u.2.2.2.2.1+u.2.2.2.2.2) > o)then b else(bif decide (e < Int.ofNat m)then(bif decide (0<=e)&&Nat.blt e.toNat m then(bif Nat.blt (0+e.toNat) ls.length then(bif decide p then b else j)else False)else False)else j))else False)else False)else False)else False)else(bif decide (e < Int.ofNat m)then(bif decide (0<=e)&&Nat.blt e.toNat m then(bif Nat.blt (0+e.toNat) ls.length then(bif decide p then b else j)else False)else False)else j)))else False)else False))else False)else False))):=by kernel_rfl
theorem rQ (ns nk:Nat) (row:List (EK.C [.tok])) (krow:Cq) (LS LK:FZ) (ls lk:Aw) (m n:Nat) (q:Int) (a:As) (d:Bool) (s:Nat) (o z:Int) (x i0:Nat) (Q:Bm):CU kG (Ax (eT i0 true)) [(22,Ao 26 m),(23,Ao 27 n)] AE [20,21,22,23,24,25,32,35] 28 Q 900 (vG ns nk row krow LS LK ls lk m n q a d s o z x)=(
 let v:=E5 lk q (s:Int);let u:=(q,a,d,(s:Int),o,z);let t:Value:= .pointer (some ⟨21,1,none⟩);let r:Value:= .pointer (some ⟨20,1,none⟩);let p:Value:= .pointer (some ⟨28,3,none⟩);let l:=int (s:Int);let k:=List.take n (List.drop 0 lk);let j:=Ao 35 (n+1);let i:=((.string a):Value)=(.string a);let h:=List.getD krow (0+(i0:Int).toNat) (EK.BL EV);let g:=PH lk.length v;let f:Value:= .agg ⟨[(int q),(.string a),(.bool d),l,(int o),(int z)]⟩;let e:=((At 21):Value)=(At 21);let c:Value:= .pointer (some ⟨28,1,none⟩);let b:=((At 20):Value)=(At 20);(m=ls.length/\x<=m/\m < 90000)/\((l:Value)=l)/\((p:Value)=p)/\(((Ao 22 ns):Value)=(Ao 22 ns))/\((r:Value)=r)/\b/\b/\(bif decide (0<=(s:Int))&&Nat.blt (s:Int).toNat ns then(bif Nat.blt (0+(s:Int).toNat) row.length then(n=lk.length/\137=B8/\lk.length < 1000000)/\(0+n<=lk.length/\BQ 56 n=true)/\((f:Value)=f)/\(((int ((g:Int))):Value)=(int ((g:Int))))/\i/\((c:Value)=c)/\e/\b/\b/\b/\(n=k.length/\PH lk.length v<=n/\n < 90000)/\i/\((c:Value)=c)/\e/\b/\b/\b/\(nk=krow.length/\nk < 1000000/\DC krow a=i0/\IL krow a=true)/\(bif decide (0<=(i0:Int))&&Nat.blt (i0:Int).toNat nk then(bif Nat.blt (0+(i0:Int).toNat) krow.length then(IZ (SK.enc SK.tok h.2) (Prod.snd (23,Ao 27 n)))/\((j:Value)=j)/\(((int (i0:Int)):Value)=(int (i0:Int)))/\(((Ao 23 nk):Value)=(Ao 23 nk))/\((t:Value)=t)/\e/\e/\(bif decide (0<=(i0:Int))&&Nat.blt (i0:Int).toNat nk then(bif Nat.blt (0+(i0:Int).toNat) krow.length then(Q (int 0) [some (.cells [(At 21),(Ao 22 ns)] 0 false),some (.cells [(.bool true),(Ao 23 nk)] 0 false),some (.vec [SK.tok] (List.set row (0+(s:Int).toNat) (Ao 32 (m+1))) false),some (.vec EV (List.set krow (0+(i0:Int).toNat) (h.1,j)) false),some (.abs (Ct.mem Ah LS) false),some (.abs (Ct.mem Ah LK) false),some (.vec Ah (HF ls x u) false),some (.vec Ah (HF k g u) false)])else False)else False)else False)else False)else False)else False)):=by kernel_rfl
def SE (i:Nat):List GA:=[(BZ,Rq,Vx),GQ DK [] xn,(A2,TV,aZ i false),GQ Da [] (SN Ah 56),(Ar,ba,Z1),GQ AK [] xg]
theorem gE:Xf (Hz 2 40) (NG 2 40):=fun _ _ hX _ _ _ h=>WX hX h
theorem kL:CY Tryz.prog AI Dc (Hz 2 40):=XA ⟨_,_,show entry Tryz.prog Dc=some (95,A9 Tryz.prog Dc []) by kernel_rfl⟩ (by decide) (by decide) MQ N9
def SR (i:Nat):List GA:=(Dc,Hz 2 40,NG 2 40)::SE i
theorem gU (i:Nat):Ci (SE i):= .other Qy R4 <| .cons el (.other TZ (Wm i false) (.cons Vw (.other WM W3 (.cons iZ .nil))))
theorem qF (i:Nat):Ci (SR i):= .other kL gE (gU i)
abbrev sZ:Ctx:=Bp Tryz.prog AI (Cv (SR 0))
abbrev cx:Ctx:=Bp Tryz.prog AI (Cv (SE 0))
def iN (ns nk:Nat) (row:List (EK.C [.tok])) (krow:Cq) (LS LK:FZ) (ls:Aw) (m:Nat) (q:Int) (a:As) (d:Bool) (s:Nat) (o z:Int) (x:Nat):BT:=
 ⟨⟨AE,EZ [(0,At 20),(3,At 27),(4,At 28),(5,.slice none 0 0),(10,int x),(12,Ao 26 m)],BD AE,[.code (A9 Tryz.prog AE [1,1,1,1,1,1,1,1,0]),.code (A9 Tryz.prog AE [1,1,1,1,1,1,1,1,1])],[⟨.collected 29,⟨[]⟩⟩],false,.normal,none⟩,[],
  (((hp (Rh ns nk row krow LS LK ls)).alloc (.cells (eV q a d s o z) 0 false)).alloc (.cells [int 0] 0 false)).alloc (.deferred (some []))⟩
def lP:Stop:=⟨AE,0,0,27,[20,21,22,23,24,25,26],[0,3,4,5,10,12]⟩
def se (ids:AW) (l:List (EK.C [.tok])):List (EK.C [.tok]):=List.map (Np (Fw 27 ids)) l
def sv (ids:AW) (l:Cq):Cq:=YJ (Fw 27 ids) l
theorem qY (ns nk:Nat) (row:List (EK.C [.tok])) (krow:Cq) (LS LK:FZ) (ls:Aw) (q:Int) (a:As) (d:Bool) (s:Nat) (o z:Int) (i0 m:Nat) (Q:Bm) (R:Bz):NH sZ (Ax (SR i0)) [(22,Ao 26 m)] AE [20,21,22,23,24,25,26] lP (O5 AE 0 0 20) lP (fun _=>false) lL Q R (fun _=>False) 900 (st AE [At 20,G6 q a d s o z] (hp (Rh ns nk row krow LS LK ls)))=(
 let v:AP:= .vec [SK.tok] row false;let u:AP:= .abs (Ct.mem Ah LK) false;let t:AP:= .abs (Ct.mem Ah LS) false;let r:AP:= .cells [(At 21),(Ao 22 ns)] 0 false;let p:AP:= .cells [(.bool true),(Ao 23 nk)] 0 false;let n:=((.bool false):Value)=(.bool false);let j:=PH ls.length (G8 ls o);let k:=((.bool (Z7 ls.length (G8 ls o) j)):Value);let i:=nk=krow.length/\nk < 1000000/\DC krow a=i0/\IL krow a=false;let f:=IZ (SK.enc SK.tok (List.getD row (0+(s:Int).toNat) (EK.BL [SK.tok]))) (Prod.snd (22,Ao 26 m));let e:Prop:=R (iN ns nk (se [27,28,32] row) (sv [27,28,32] krow) LS LK ls m q a d s o z (J7 ls o));let c:=(j:Int);let h:=IntKind.wrap .i64 (o+z) > (List.getD ls (0+c.toNat) (EK.BL Ah)).2.2.2.2.1;let g:=IntKind.wrap .i64 (c - 1);let l:=List.getD ls (0+g.toNat) (EK.BL Ah);let b:Prop:=Q (int 6) [some r,some p,some v,some (.vec EV krow false),some t,some u,some (.vec Ah ls false)];(0 < ns)/\(0 < ns)/\(bif decide ((s:Int) < Int.ofNat ns)then(Mt q a d o z)/\i/\n/\(0 < ns)/\i/\n/\(bif decide (0<=(s:Int))&&Nat.blt (s:Int).toNat ns then(bif Nat.blt (0+(s:Int).toNat) row.length then f/\(m=ls.length/\133=B5/\ls.length < 1000000)/\(bif Z7 ls.length (G8 ls o) j then(k=(.bool true))/\(bif decide (0<=(s:Int))&&Nat.blt (s:Int).toNat ns then(bif Nat.blt (0+(s:Int).toNat) row.length then f/\b else False)else False)else(k=(.bool false))/\(bif decide (0<=(s:Int))&&Nat.blt (s:Int).toNat ns then(bif Nat.blt (0+(s:Int).toNat) row.length then f/\(bif decide (c > 0)then(bif decide (0<=IntKind.wrap .i64 (c - 1))&&Nat.blt g.toNat m then(bif Nat.blt (0+g.toNat) ls.length then(bif decide (0<=IntKind.wrap .i64 (c - 1))&&Nat.blt g.toNat m then(bif Nat.blt (0+g.toNat) ls.length then(bif decide (IntKind.wrap .i64 (l.2.2.2.2.1+l.2.2.2.2.2) > o)then b else(bif decide (c < Int.ofNat m)then(bif decide (0<=c)&&Nat.blt c.toNat m then(bif Nat.blt (0+c.toNat) ls.length then(bif decide h then b else e)else False)else False)else e))else False)else False)else False)else False)else(bif decide (c < Int.ofNat m)then(bif decide (0<=c)&&Nat.blt c.toNat m then(bif Nat.blt (0+c.toNat) ls.length then(bif decide h then b else e)else False)else False)else e))else False)else False))else False)else False)else(Q (int 3) [some r,some p,some v,some (.vec EV krow false),some t,some u,some (.vec Ah ls false)]))):=by kernel_rfl
theorem uh (ns nk:Nat) (row:List (EK.C [.tok])) (krow:Cq) (LS LK:FZ) (ls:Aw) (q:Int) (a:As) (d:Bool) (s:Nat) (o z:Int) (i0 m:Nat) (Q:Bm) (R:Bz):NH cx (Ax (SE i0)) [(22,Ao 26 m)] AE [20,21,22,23,24,25,26] lP (O5 AE 0 0 20) lP (fun _=>false) lL Q R (fun _=>False) 900 (st AE [At 20,G6 q a d s o z] (hp (Rh ns nk row krow LS LK ls)))=(
 let v:AP:= .vec [SK.tok] row false;let u:AP:= .abs (Ct.mem Ah LK) false;let t:AP:= .abs (Ct.mem Ah LS) false;let r:AP:= .cells [(At 21),(Ao 22 ns)] 0 false;let p:AP:= .cells [(.bool true),(Ao 23 nk)] 0 false;let n:=((.bool false):Value)=(.bool false);let j:=PH ls.length (G8 ls o);let k:=((.bool (Z7 ls.length (G8 ls o) j)):Value);let i:=nk=krow.length/\nk < 1000000/\DC krow a=i0/\IL krow a=false;let f:=IZ (SK.enc SK.tok (List.getD row (0+(s:Int).toNat) (EK.BL [SK.tok]))) (Prod.snd (22,Ao 26 m));let e:Prop:=R (iN ns nk (se [27,28,32] row) (sv [27,28,32] krow) LS LK ls m q a d s o z (J7 ls o));let c:=(j:Int);let h:=IntKind.wrap .i64 (o+z) > (List.getD ls (0+c.toNat) (EK.BL Ah)).2.2.2.2.1;let g:=IntKind.wrap .i64 (c - 1);let l:=List.getD ls (0+g.toNat) (EK.BL Ah);let b:Prop:=Q (int 6) [some r,some p,some v,some (.vec EV krow false),some t,some u,some (.vec Ah ls false)];(0 < ns)/\(0 < ns)/\(bif decide ((s:Int) < Int.ofNat ns)then(Mt q a d o z)/\i/\n/\(0 < ns)/\i/\n/\(bif decide (0<=(s:Int))&&Nat.blt (s:Int).toNat ns then(bif Nat.blt (0+(s:Int).toNat) row.length then f/\(m=ls.length/\133=B5/\ls.length < 1000000)/\(bif Z7 ls.length (G8 ls o) j then(k=(.bool true))/\(bif decide (0<=(s:Int))&&Nat.blt (s:Int).toNat ns then(bif Nat.blt (0+(s:Int).toNat) row.length then f/\b else False)else False)else(k=(.bool false))/\(bif decide (0<=(s:Int))&&Nat.blt (s:Int).toNat ns then(bif Nat.blt (0+(s:Int).toNat) row.length then f/\(bif decide (c > 0)then(bif decide (0<=IntKind.wrap .i64 (c - 1))&&Nat.blt g.toNat m then(bif Nat.blt (0+g.toNat) ls.length then(bif decide (0<=IntKind.wrap .i64 (c - 1))&&Nat.blt g.toNat m then(bif Nat.blt (0+g.toNat) ls.length then(bif decide (IntKind.wrap .i64 (l.2.2.2.2.1+l.2.2.2.2.2) > o)then b else(bif decide (c < Int.ofNat m)then(bif decide (0<=c)&&Nat.blt c.toNat m then(bif Nat.blt (0+c.toNat) ls.length then(bif decide h then b else e)else False)else False)else e))else False)else False)else False)else False)else(bif decide (c < Int.ofNat m)then(bif decide (0<=c)&&Nat.blt c.toNat m then(bif Nat.blt (0+c.toNat) ls.length then(bif decide h then b else e)else False)else False)else e))else False)else False))else False)else False)else(Q (int 3) [some r,some p,some v,some (.vec EV krow false),some t,some u,some (.vec Ah ls false)]))):=by kernel_rfl
theorem sw (ns nk:Nat) (row:List (EK.C [.tok])) (krow:Cq) (LS LK:FZ) (ls:Aw) (m:Nat) (q:Int) (a:As) (d:Bool) (s:Nat) (o z:Int) (x i0:Nat) (Q:Bm):CU sZ (Ax (SR i0)) [(22,Ao 26 m)] AE [20,21,22,23,24,25,31,36,34] 27 Q 900 (iN ns nk row krow LS LK ls m q a d s o z x)=(
 let n:=(q,a,d,(s:Int),o,z);let l:=((int 0):Value)=(int 0);let k:Value:= .pointer (some ⟨20,1,none⟩);let j:Value:= .pointer (some ⟨27,3,none⟩);let i:=int (s:Int);let h:=((At 21):Value)=(At 21);let g:=((.string a):Value)=(.string a);let f:=List.take nk (List.drop 0 krow);let e:Value:= .agg ⟨[(int q),(.string a),(.bool d),i,(int o),(int z)]⟩;let c:Value:= .pointer (some ⟨27,1,none⟩);let b:=((At 20):Value)=(At 20);(m=ls.length/\x<=m/\m < 90000)/\((i:Value)=i)/\((j:Value)=j)/\(((Ao 22 ns):Value)=(Ao 22 ns))/\((k:Value)=k)/\b/\b/\(bif decide (0<=(s:Int))&&Nat.blt (s:Int).toNat ns then(bif Nat.blt (0+(s:Int).toNat) row.length then l/\(((.bool false):Value)=(.bool false))/\((e:Value)=e)/\l/\g/\((c:Value)=c)/\h/\b/\b/\b/\g/\((c:Value)=c)/\h/\b/\b/\b/\(nk=krow.length/\nk < 1000000/\DC krow a=i0/\IL krow a=false)/\(0+nk<=krow.length/\0<=(i0:Int)/\(i0:Int) < (nk:Int)/\BQ 40 (nk+1)=true/\List.all (Ag EV f) Bh=true)/\(Q (int 0) [some (.cells [(At 21),(Ao 22 ns)] 0 false),some (.cells [(.bool true),(Ao 36 (nk+1))] 0 false),some (.vec [SK.tok] (List.set row (0+(s:Int).toNat) (Ao 31 (m+1))) false),none,some (.abs (Ct.mem Ah LS) false),some (.abs (Ct.mem Ah LK) false),some (.vec Ah (HF ls x n) false),some (.vec EV ((List.take (i0:Int).toNat f)++([(a,(Ao 34 1))]++(List.drop (i0:Int).toNat f))) false),some (.vec ([SK.int IntKind.i64,SK.str,SK.bool,SK.int IntKind.i64,SK.int IntKind.i64,SK.int IntKind.i64]) ([n]) false)])else False)else False)):=by kernel_rfl
theorem sr (ns nk:Nat) (row:List (EK.C [.tok])) (krow:Cq) (LS LK:FZ) (ls:Aw) (m:Nat) (q:Int) (a:As) (d:Bool) (s:Nat) (o z:Int) (x i0:Nat) (Q:Bm):CU cx (Ax (SE i0)) [(22,Ao 26 m)] AE [20,21,22,23,24,25,31,36,34] 27 Q 900 (iN ns nk row krow LS LK ls m q a d s o z x)=(
 let l:=(q,a,d,(s:Int),o,z);let k:=((int 0):Value)=(int 0);let j:Value:= .pointer (some ⟨20,1,none⟩);let i:Value:= .pointer (some ⟨27,3,none⟩);let h:=int (s:Int);let g:=((At 21):Value)=(At 21);let f:=((.string a):Value)=(.string a);let e:Value:= .agg ⟨[(int q),(.string a),(.bool d),h,(int o),(int z)]⟩;let c:Value:= .pointer (some ⟨27,1,none⟩);let b:=((At 20):Value)=(At 20);(m=ls.length/\x<=m/\m < 90000)/\((h:Value)=h)/\((i:Value)=i)/\(((Ao 22 ns):Value)=(Ao 22 ns))/\((j:Value)=j)/\b/\b/\(bif decide (0<=(s:Int))&&Nat.blt (s:Int).toNat ns then(bif Nat.blt (0+(s:Int).toNat) row.length then k/\(((.bool false):Value)=(.bool false))/\((e:Value)=e)/\k/\f/\((c:Value)=c)/\g/\b/\b/\b/\f/\((c:Value)=c)/\g/\b/\b/\b/\(nk=krow.length/\nk < 1000000/\DC krow a=i0/\IL krow a=false)/\(bif decide (0<=Int.ofNat nk)&&Nat.ble (Int.ofNat nk).toNat nk&&decide (0<=(i0:Int))&&Nat.ble (i0:Int).toNat (Int.ofNat nk).toNat then(bif (i0:Int)==Int.ofNat nk then(bif true&&Nat.ble (0+nk) krow.length&&BQ 40 (nk+1)then(Q (int 0) [some (.cells [(At 21),(Ao 22 ns)] 0 false),some (.cells [(.bool true),(Ao 36 (nk+1))] 0 false),some (.vec [SK.tok] (List.set row (0+(s:Int).toNat) (Ao 31 (m+1))) false),none,some (.abs (Ct.mem Ah LS) false),some (.abs (Ct.mem Ah LK) false),some (.vec Ah (HF ls x l) false),some (.vec ([SK.str,SK.tok]) ((List.take nk (List.drop 0 krow))++[(a,(Ao 34 1))]) false),some (.vec ([SK.int IntKind.i64,SK.str,SK.bool,SK.int IntKind.i64,SK.int IntKind.i64,SK.int IntKind.i64]) ([l]) false)])else False)else False)else False)else False)else False)):=by kernel_rfl
end Go.AD
namespace Go.AD
theorem Am.ah {μ ν:Ae}:∀(x x' l:AL),x'.length=x.length->(∀(i:Nat) v v',x[i]? = some v->x'[i]? = some v'->∀w,AH μ v w->AH ν v' w)->Am μ x l->Am ν x' l
 | [],[],_,_,_,h=>by cases h;exact .nil
 | [],_::_,_,hl,_,_=>by cases hl
 | _::_,[],_,hl,_,_=>by cases hl
 | _::x,_::x',_,hl,hv,h=>by
  cases h with
  | cons h1 h2=>exact .cons (hv 0 _ _ rfl rfl _ h1) (Am.ah x x' _ (by simpa using hl) (fun i v v' e e'=>hv (i+1) v v' (by simpa using e) (by simpa using e')) h2)
theorem Am.iI {μ ν:Ae}:∀(x x':List (EK.C [.str,.tok])) (l:AL),x'.length=x.length->(∀(i:Nat) (p p':EK.C [.str,.tok]),x[i]? = some p->x'[i]? = some p'->p'.1=p.1/\∀w,AH μ p.2 w->AH ν p'.2 w)->Am μ (Ag [.str,.tok] x) l->Am ν (Ag [.str,.tok] x') l
 | [],[],_,_,_,h=>by cases h;exact .nil
 | [],_::_,_,hl,_,_=>by cases hl
 | _::_,[],_,hl,_,_=>by cases hl
 | a::x,a'::x',l,hl,hv,h=>by
  have h:Am μ (Value.string a.1::a.2::Ag [.str,.tok] x) l:=h;obtain⟨e1,e2⟩:=hv 0 a a' rfl rfl;show Am ν (Value.string a'.1::a'.2::Ag [.str,.tok] x') l;cases h with
  | cons h1 h2=>cases h2 with
   | cons h3 h4=>
    cases h1
    rw[e1];exact .cons (.string _) (.cons (e2 _ h3) (Am.iI x x' _ (by simpa using hl) (fun i v v' e e'=>hv (i+1) v v' (by simpa using e) (by simpa using e')) h4))
section
variable {base:Env} {W0:World} {μ:Ae} {H:AA} {W:World}
theorem AJ.qI (h:AJ base W0 μ H W) {a z j:Nat} {k:EK} (hk:k.all Fv=true) {L:List (Option (List (EK.C k)))} {C:List (List (EK.C k))} {l:List (EK.C k)} {T M:Bc} (ha:H.get a=some (.abs (.mem k L) false)) (hm:μ a=some T)
 (hz:H.get z=some (.vec k l false)) (hzm:μ z=some M) (hj:C[j]? = some l) (σ:Nat->Nat) (hsel:∀(i:Nat) (m:List (EK.C k)),i≠j->C[i]? = some m->L[σ i]? = some (some m))
 (hσ:∀(i i':Nat),i≠j->i'≠j->i < C.length->i' < C.length->σ i=σ i'->i=i'):
 ∃T2:Bc,AJ base W0 (μ.ext H.next T2) ((((H.del a).alloc (.abs (.mem k ((C.map some).set j none)) false)).del z).put H.next (.abs (.mem k (C.map some)) false)) W/\
  (∀(i:Nat) (n c:Nat) (w:Value),i≠j->i < C.length->AH (μ.ext H.next T2) (.slice (some ⟨a,1,some (σ i)⟩) n c) w->AH (μ.ext H.next T2) (.slice (some ⟨H.next,1,some i⟩) n c) w)/\
  (∀(n c:Nat) (w:Value),AH (μ.ext H.next T2) (.slice (some ⟨z,0,some 0⟩) n c) w->AH (μ.ext H.next T2) (.slice (some ⟨H.next,1,some j⟩) n c) w):=by
 obtain⟨φ,q⟩:=h.abs;obtain⟨⟨ts,hR⟩,_⟩:=q.rep a _ false T ha hm;have hjl:j < C.length:=(List.getElem?_eq_some_iff.1 hj).1;have hts:∀i,i≠j->i < C.length->∃N,ts[σ i]? = some N:=fun i hi hil=>by
  have:=hsel i _ hi (Jj hil);have hlt:=(List.getElem?_eq_some_iff.1 this).1;exact⟨_,Jj (by rw[hR.len];exact hlt)⟩
 let ts2:List Bc:=(List.range C.length).map fun i=>if i=j then M else(ts[σ i]?).getD M
 have hlen2:ts2.length=((C.map some).set j none).length:=by simp[ts2]
 have g2:∀i,i < C.length->ts2[i]? = some (if i=j then M else(ts[σ i]?).getD M):=fun i hi=>by
  show((List.range C.length).map _)[i]? = _;rw[Sy,AAf hi];rfl
 have gj:ts2[j]? = some M:=by rw[g2 j hjl,MB rfl]
 have go:∀i N,i≠j->i < C.length->ts[σ i]? = some N->ts2[i]? = some N:=fun i N hi hil hN=>by rw[g2 i hil,JT hi,hN];rfl
 have hset:∀(i:Nat) (m:List (EK.C k)),((C.map some).set j none)[i]? = some (some m)->i≠j/\C[i]? = some m:=by
  intro i m hi;rw[Q6]at hi
  by_cases e:j=i
  ·rw[MB e]at hi;split at hi<;>cases hi
  ·rw[JT e,Sy]at hi;refine⟨fun h=>e h.symm,?_⟩;cases hc:C[i]? with
   | none=>rw[hc]at hi;cases hi
   | some x=>rw[hc]at hi;cases hi;rfl
 obtain⟨T2,hT2,h2⟩:=h.hY (z:=z) (j:=j) hk (L2:=(C.map some).set j none) (l:=l) (M:=M) (ts:=ts) (ts2:=ts2) ha hm hR.code hz hzm hlen2 (by rw[Q6,MB rfl,MB (by simpa using hjl)]) gj σ (fun i N m e1 e2=>by
  obtain⟨hi,hc⟩:=hset i m e2;have hil:=(List.getElem?_eq_some_iff.1 hc).1;obtain⟨N',hN'⟩:=hts i hi hil;rw[go i N' hi hil hN']at e1;cases e1
  exact⟨hN',hsel i m hi hc⟩) (fun i i' m m' e1 e2 e3=>by
  obtain⟨hi,hc⟩:=hset i m e1;obtain⟨hi',hc'⟩:=hset i' m' e2;exact hσ i i' hi hi' (List.getElem?_eq_some_iff.1 hc).1 (List.getElem?_eq_some_iff.1 hc').1 e3)
 have hfull:((C.map some).set j none).set j (some l)=C.map some:=by
  rw[AAb];have:(C.map some)[j]? = some (some l):=by rw[Sy,hj];rfl
  obtain⟨q1,q2⟩:=List.getElem?_eq_some_iff.1 this;rw[<-q2,yp]
 rw[hfull]at h2;have hal:=h.lt ha;have hzl:=h.lt hz;refine⟨T2,h2,fun i n c w hi hil hv=>?_,fun n c w hv=>?_⟩
 ·refine AH.rY (T:=T) (T2:=T2) (by rw[Ae.BI _ _ (by omega)];exact hm) (Ae.Af _ _ _) (fun N hN=>?_) hv;rw[hR.code,FG]at hN;rw[hT2,FG];exact go i N hi hil hN
 ·exact AH.wM (M:=M) (T:=T2) (by rw[Ae.BI _ _ (by omega)];exact hzm) (Ae.Af _ _ _) (by rw[hT2,FG];exact gj) hv
theorem AJ.qK (h:AJ base W0 μ H W) {a j:Nat} {k:EK} {L:List (Option (List (EK.C k)))} {l:List (EK.C k)} {T:Bc} (ha:H.get a=some (.abs (.mem k L) false)) (hm:μ a=some T) (hj:L[j]? = some (some l)):
 ∃M,AJ base W0 (μ.ext H.next M) (H.X3 a j k L l) W/\∀(n c:Nat) (w:Value),AH (μ.ext H.next M) (.slice (some ⟨a,1,some j⟩) n c) w->AH (μ.ext H.next M) (.slice (some ⟨H.next,0,some 0⟩) n c) w:=by
 obtain⟨ts,M,h1,h2,h3⟩:=h.X3 ha hm hj;have hal:=h.lt ha;refine⟨M,h3,fun n c w hv=>AH.xF (T:=T) (M:=M) (by rw[Ae.BI _ _ (by omega)];exact hm) (by rw[h1,FG];exact h2) (Ae.Af _ _ _) hv⟩
end
end Go.AD
namespace Go.AD
open Go.Proofs
theorem DS (a:Nat) (S:List (Aw)):(GL a S).length=S.length:=by unfold GL;simp
theorem M7 (a i:Nat) (S:List (Aw)):(GL a S)[i]? = (S[i]?).map fun l=>Value.slice (some ⟨a,1,some i⟩) l.length cU:=by
 unfold GL;rw[Sy,ABf];cases S[i]? with
 | none=>rfl
 | some l=>simp
theorem DA (a:Nat) (K:List (As × Aw)):(Df a K).length=K.length:=by unfold Df;simp
theorem JV (a i:Nat) (K:List (As × Aw)):(Df a K)[i]? = (K[i]?).map fun p=>(p.1,Value.slice (some ⟨a,1,some i⟩) p.2.length cU):=by
 unfold Df;rw[Sy,ABf];cases K[i]? with
 | none=>rfl
 | some l=>simp
theorem bA {ρ:Ren} {a b:Nat} (h:ρ a=some b) (i n:Nat):Dr ρ (.slice (some ⟨a,1,some i⟩) n cU)=some (.slice (some ⟨b,1,some i⟩) n cU):=by
 show(Je ρ ⟨a,_,_⟩).map (fun a=>Value.slice (some a) n cU)=_;simp only[Je,h];rfl
theorem OV {ρ:Ren} {a b:Nat} (h:ρ a=some b) (S:List (Aw)) (ro:Bool):BV ρ (.vec [.tok] (GL a S) ro)=some (.vec [.tok] (GL b S) ro):=by
 have key:∀l:List (Aw × Nat),DB (Dr ρ) (l.map fun p=>Value.slice (some ⟨a,1,some p.2⟩) p.1.length cU)=some (l.map fun p=>Value.slice (some ⟨b,1,some p.2⟩) p.1.length cU):=by
  intro l;induction l with
  | nil=>rfl
  | cons j l ih=>simp only[Sm,DB,ih];rw[bA h]
 show(DB (Dr ρ) (GL a S)).map _=_;unfold GL;rw[key];rfl
theorem Nv {ρ:Ren} {a b:Nat} (h:ρ a=some b) (K:List (As × Aw)) (ro:Bool):BV ρ (.vec [.str,.tok] (Df a K) ro)=some (.vec [.str,.tok] (Df b K) ro):=by
 have key:∀l:List ((As × Aw) × Nat),IF (Dr ρ) (l.map fun p=>(p.1.1,Value.slice (some ⟨a,1,some p.2⟩) p.1.2.length cU))=some (l.map fun p=>(p.1.1,Value.slice (some ⟨b,1,some p.2⟩) p.1.2.length cU)):=by
  intro l;induction l with
  | nil=>rfl
  | cons j l ih=>simp only[Sm,IF,ih];rw[bA h]
 show(IF (Dr ρ) (Df a K)).map _=_;unfold Df;rw[key];rfl
def DY (K:List (As × Aw)):FZ:=K.map fun p=>some p.2
def Vi (x:Cm):BN:=[.cells [At 21,Ao 22 x.AR.length] 0 false,.cells [.bool true,Ao 23 x.keys.length] 0 false,.vec [.tok] (GL 24 x.AR) false,.vec EV (Df 25 x.keys) false,.abs (.mem Ah (x.AR.map some)) false,.abs (.mem Ah (DY x.keys)) false]
theorem yZ {ρ:Ren} {p1 p2 p3 p4 p5 q1 q2 q3 q4 q5:AP} (h1:BV ρ p1=some q1) (h2:BV ρ p2=some q2) (h3:BV ρ p3=some q3) (h4:BV ρ p4=some q4) (h5:BV ρ p5=some q5):
 ∀(i:Nat) (p:AP),[p1,p2,p3,p4,p5][i]? = some p->∃q,[q1,q2,q3,q4,q5][i]? = some q/\BV ρ p=some q
 | 0,_,h=>by cases h;exact⟨_,rfl,h1⟩
 | 1,_,h=>by cases h;exact⟨_,rfl,h2⟩
 | 2,_,h=>by cases h;exact⟨_,rfl,h3⟩
 | 3,_,h=>by cases h;exact⟨_,rfl,h4⟩
 | 4,_,h=>by cases h;exact⟨_,rfl,h5⟩
 | i+5,_,h=>by cases h
theorem ai (x:Cm) (objs:BN) (hr:Bx (.idx x) objs):objs.length=6/\FB (DH ⟨.leaf,20⟩ [.abs (.pack (.idx x)) false]) 20 false objs (hp (Vi x)) []:=by
 cases hr with
 | idx=>
  refine⟨rfl,?_⟩;have:=GJ (N:=20) (s:= .idx x) (os:=[]) (o:= .cells [.pointer (some ⟨1,0,none⟩),.slice (some ⟨2,0,some 0⟩) x.AR.length cU] 0 false) (o1:= .cells [At 21,Ao 22 x.AR.length] 0 false)
   (ps:=[.cells [.bool true,.slice (some ⟨3,0,some 0⟩) x.keys.length cU] 0 false,.vec [.tok] (GL 4 x.AR) false,.vec [.str,.tok] (Df 5 x.keys) false,.abs (.mem Ah (x.AR.map some)) false,.abs (.mem Ah (x.keys.map fun p=>some p.2)) false])
   (ps1:=[.cells [.bool true,Ao 23 x.keys.length] 0 false,.vec [.tok] (GL 24 x.AR) false,.vec EV (Df 25 x.keys) false,.abs (.mem Ah (x.AR.map some)) false,.abs (.mem Ah (DY x.keys)) false]) rfl rfl
   (yZ rfl (OV (by rfl) _ _) (Nv (by rfl) _ _) rfl rfl)
  have e:D7 ((DH ⟨.leaf,20⟩ [.abs (.pack (.idx x)) false]).put 20 (.cells [At 21,Ao 22 x.AR.length] 0 false)) [.cells [.bool true,Ao 23 x.keys.length] 0 false,.vec [.tok] (GL 24 x.AR) false,.vec EV (Df 25 x.keys) false,.abs (.mem Ah (x.AR.map some)) false,.abs (.mem Ah (DY x.keys)) false]=hp (Vi x):=by kernel_rfl
  rw[e]at this;exact this
structure rD (m r y a b:Nat) (x:Cm) (H:AA):Prop where
 nd:[20,m,r,y,a,b].Nodup
 g0:H.get 20=some (.cells [At m,Ao r x.AR.length] 0 false)
 g1:H.get m=some (.cells [.bool true,Ao y x.keys.length] 0 false)
 g2:H.get r=some (.vec [.tok] (GL a x.AR) false)
 g3:H.get y=some (.vec EV (Df b x.keys) false)
 g4:H.get a=some (.abs (.mem Ah (x.AR.map some)) false)
 g5:H.get b=some (.abs (.mem Ah (DY x.keys)) false)
theorem bE {base:Env} {W0 W:World} {μ:Ae} {H:AA} (h:AJ base W0 μ H W) {m r y a b:Nat} {x:Cm} (hI:rD m r y a b x H) (hd:∀z∈[20,m,r,y,a,b],∃T,μ z=some T):AJ base W0 μ (Le (.idx x) [20,m,r,y,a,b] H) W/\(Le (.idx x) [20,m,r,y,a,b] H).get 20=some (.abs (.pack (.idx x)) false):=by
 have hS:=E2 (s:= .idx x) (H:=H) hI.nd;refine⟨(h.shut (Bx.idx x) hI.nd rfl (by simp) hd (fun i z o hz ho=>?_) hS (fun o T ho=>by cases ho;exact id)).1,hS.root 20 rfl⟩
 match i,hz,ho with
 | 0,hz,ho=>cases hz;cases ho;exact⟨_,hI.g0,rfl,rfl,rfl⟩
 | 1,hz,ho=>cases hz;cases ho;exact⟨_,hI.g1,rfl,rfl,rfl⟩
 | 2,hz,ho=>cases hz;cases ho;exact⟨_,hI.g2,rfl,rfl,OV (by rfl) _ _⟩
 | 3,hz,ho=>cases hz;cases ho;exact⟨_,hI.g3,rfl,rfl,Nv (by rfl) _ _⟩
 | 4,hz,ho=>cases hz;cases ho;exact⟨_,hI.g4,rfl,rfl,rfl⟩
 | 5,hz,ho=>cases hz;cases ho;exact⟨_,hI.g5,rfl,rfl,rfl⟩
 | i+6,hz,ho=>cases hz
def rowP (S:List (Aw)) (s n:Nat):List (EK.C [.tok]):=(GL 24 S).set s (Ao 26 n)
def Ip (S:List (Aw)) (s:Nat):FZ:=(S.map some).set s none
theorem cX {μ:Ae} {S:List (Aw)} {s a z:Nat} {l:Aw} (hs:S[s]? = some l) (hv:∀(n c:Nat) (w:Value),AH μ (.slice (some ⟨a,1,some s⟩) n c) w->AH μ (.slice (some ⟨z,0,some 0⟩) n c) w) (w:AL) (h:Am μ (Ag [.tok] (GL a S)) w):Am μ (Ag [.tok] ((GL a S).set s (Ao z l.length))) w:=by
 rw[D9]at h ⊢;refine Am.ah _ _ _ (SB ..) (fun i v v' e1 e2 u hu=>?_) h;rw[Q6]at e2
 by_cases he:s=i
 ·subst he;rw[MB rfl]at e2;split at e2
  ·cases e2
   rw[M7,hs]at e1;cases e1
   exact hv _ _ _ hu
  ·cases e2
 ·rw[JT he]at e2;rw[e1]at e2;cases e2;exact hu
theorem RS {base:Env} {W0 W:World} {μ:Ae} {x:Cm} {s:Nat} {l:Aw} (hs:x.AR[s]? = some l) (h:AJ base W0 μ (hp (Vi x)) W) (hd:∀z,20<=z/\z < 26->∃T,μ z=some T):
 ∃μ2,μ.le μ2/\AJ base W0 μ2 (hp (Rh x.AR.length x.keys.length (rowP x.AR s l.length) (Df 25 x.keys) (Ip x.AR s) (DY x.keys) l)) W/\∀z,20<=z/\z < 27->∃T,μ2 z=some T:=by
 obtain⟨T,hT⟩:=hd 24 (by decide);obtain⟨M,h1,h2⟩:=h.qK (k:=Ah) (a:=24) (j:=s) (L:=x.AR.map some) (l:=l) (by kernel_rfl) hT (by rw[Sy,hs];rfl);have hnx:(hp (Vi x)).next=26:=by kernel_rfl
 have hle:μ.le (μ.ext 26 M):=Ae.Cc M (h.fresh 26 (GO _)).2;have h3:=h1.NV (b:=22) (k:=[.tok]) (x:=GL 24 x.AR) (x':=rowP x.AR s l.length) (ro:=false) (by rw[Iz,hnx,JT (by decide),JT (by decide)];kernel_rfl) (by unfold rowP;rw[SB]) (fun w hw=>cX hs (fun n c w hv=>h2 n c w hv) w hw);refine⟨_,hle,h3.congr (fun z=>?_) rfl,fun z hz=>?_⟩
 ·rw[AA.AU,Iz,hnx]
  by_cases e1:z=22
  ·subst e1;rw[MB rfl];kernel_rfl
  ·rw[JT e1]
   by_cases e2:z=26
   ·subst e2;rw[MB rfl];kernel_rfl
   ·rw[JT e2]
    by_cases e3:z=24
    ·subst e3;rw[MB rfl];kernel_rfl
    ·rw[JT e3];show(DH ⟨.leaf,20⟩ _).get z=(DH ⟨.leaf,20⟩ _).get z;rw[Fc,Fc]
     by_cases e4:z < 20
     ·simp only[MB e4]
     ·simp only[JT e4];obtain⟨j,rfl⟩:∃j,z=20+j:=⟨z - 20,by omega⟩
      rw[AAl]
      match j,e1,e2,e3 with
      | 0,_,_,_=>rfl
      | 1,_,_,_=>rfl
      | 2,e1,_,_=>exact absurd rfl e1
      | 3,_,_,_=>rfl
      | 4,_,_,e3=>exact absurd rfl e3
      | 5,_,_,_=>rfl
      | 6,_,e2,_=>exact absurd rfl e2
      | j+7,_,_,_=>rfl
 ·by_cases e:z=26
  ·subst e;exact⟨M,Ae.Af _ _ _⟩
  ·obtain⟨T,hT⟩:=hd z (by omega);exact⟨T,hle _ _ hT⟩
theorem jJ {base:Env} {W0 W:World} {μ:Ae} {ns:Nat} {row:List (EK.C [.tok])} {K:List (As × Aw)} {LS:FZ} {ls l:Aw} {j:Nat} {k:As} (hj:K[j]? = some (k,l))
 (h:AJ base W0 μ (hp (Rh ns K.length row (Df 25 K) LS (DY K) ls)) W) (hd:∀z,20<=z/\z < 27->∃T,μ z=some T):
 ∃μ2,μ.le μ2/\AJ base W0 μ2 (hp (lM ns K.length row ((Df 25 K).set j (k,Ao 27 l.length)) LS ((DY K).set j none) ls l)) W/\∀z,20<=z/\z < 28->∃T,μ2 z=some T:=by
 obtain⟨T,hT⟩:=hd 25 (by decide);obtain⟨M,h1,h2⟩:=h.qK (k:=Ah) (a:=25) (j:=j) (L:=DY K) (l:=l) (by kernel_rfl) hT (by unfold DY;rw[Sy,hj];rfl);have hnx:(hp (Rh ns K.length row (Df 25 K) LS (DY K) ls)).next=27:=by kernel_rfl
 have hle:μ.le (μ.ext 27 M):=Ae.Cc M (h.fresh 27 (GO _)).2;have h3:=h1.NV (b:=23) (k:=EV) (x:=Df 25 K) (x':=(Df 25 K).set j (k,Ao 27 l.length)) (ro:=false) (by rw[Iz,hnx,JT (by decide),JT (by decide)];kernel_rfl) (by rw[SB]) (fun w hw=>by
  refine Am.iI _ _ _ (SB ..) (fun i p p' e1 e2=>?_) hw;rw[Q6]at e2
  by_cases he:j=i
  ·subst he;rw[MB rfl]at e2;split at e2
   ·cases e2
    rw[JV,hj]at e1;cases e1
    exact⟨rfl,fun u hu=>h2 _ _ _ hu⟩
   ·cases e2
  ·rw[JT he]at e2;rw[e1]at e2;cases e2;exact⟨rfl,fun u hu=>hu⟩)
 refine⟨_,hle,h3.congr (fun z=>?_) rfl,fun z hz=>?_⟩
 ·rw[AA.AU,Iz,hnx]
  by_cases e1:z=23
  ·subst e1;rw[MB rfl];kernel_rfl
  ·rw[JT e1]
   by_cases e2:z=27
   ·subst e2;rw[MB rfl];kernel_rfl
   ·rw[JT e2]
    by_cases e3:z=25
    ·subst e3;rw[MB rfl];kernel_rfl
    ·rw[JT e3];show(DH ⟨.leaf,20⟩ _).get z=(DH ⟨.leaf,20⟩ _).get z;rw[Fc,Fc]
     by_cases e4:z < 20
     ·simp only[MB e4]
     ·simp only[JT e4];obtain⟨i,rfl⟩:∃i,z=20+i:=⟨z - 20,by omega⟩
      rw[AAl]
      match i,e1,e2,e3 with
      | 0,_,_,_=>rfl
      | 1,_,_,_=>rfl
      | 2,_,_,_=>rfl
      | 3,e1,_,_=>exact absurd rfl e1
      | 4,_,_,_=>rfl
      | 5,_,_,e3=>exact absurd rfl e3
      | 6,_,_,_=>rfl
      | 7,_,e2,_=>exact absurd rfl e2
      | i+8,_,_,_=>rfl
 ·by_cases e:z=27
  ·subst e;exact⟨M,Ae.Af _ _ _⟩
  ·obtain⟨T,hT⟩:=hd z (by omega);exact⟨T,hle _ _ hT⟩
section
variable {base:Env} {W0 W:World} {μ:Ae} {H:AA}
theorem SZ (h:AJ base W0 μ H W) {S:List (Aw)} {s w1:Nat} {l1:Aw} (hs:s < S.length) (h24:H.get 24=some (.abs (.mem Ah (Ip S s)) false)) (hk:∃T,μ 24=some T) (hw:H.get w1=some (.vec Ah l1 false)) (hkw:∃T,μ w1=some T)
 (h22:H.get 22=some (.vec [.tok] ((GL 24 S).set s (Ao w1 l1.length)) false)):
 ∃μ2 H2,μ.le μ2/\AJ base W0 μ2 H2 W/\(∃T,μ2 H.next=some T)/\H2.next=H.next+1/\H2.get H.next=some (.abs (.mem Ah ((S.set s l1).map some)) false)/\H2.get 22=some (.vec [.tok] (GL H.next (S.set s l1)) false)/\∀z,z≠H.next->z≠22->z≠w1->z≠24->H2.get z=H.get z:=by
 obtain⟨T,hT⟩:=hk;obtain⟨M,hM⟩:=hkw;have h22l:=h.lt h22;have hw1l:=h.lt hw;have hw22:(22:Nat)≠w1:=by rintro rfl;rw[h22]at hw;cases hw
 obtain⟨T2,h2,c1,c2⟩:=h.qI (a:=24) (z:=w1) (j:=s) (k:=Ah) (by decide) (C:=S.set s l1) h24 hT hw hM (by rw[Q6,MB rfl,MB hs]) id (fun i m hi hm=>by
  rw[Q6,JT (gi hi)]at hm;show(Ip S s)[i]? = _;unfold Ip;rw[Q6,JT (gi hi),Sy,hm];rfl) (fun i i' _ _ _ _ e=>e)
 have hle:μ.le (μ.ext H.next T2):=Ae.Cc T2 (h.fresh H.next (GO _)).2;have g22:=(Jv (H:=H) (a:=24) (z:=w1) (j:=s) (k:=Ah) (L2:=((S.set s l1).map some).set s none) (l:=l1) 22);have hfull:(((S.set s l1).map some).set s none).set s (some l1)=(S.set s l1).map some:=by
  rw[AAb];have:((S.set s l1).map some)[s]? = some (some l1):=by rw[Sy,Q6,MB rfl,MB hs];rfl
  obtain⟨q1,q2⟩:=List.getElem?_eq_some_iff.1 this;rw[<-q2,yp]
 rw[hfull]at g22;have gAll:=fun z=>(Jv (H:=H) (a:=24) (z:=w1) (j:=s) (k:=Ah) (L2:=((S.set s l1).map some).set s none) (l:=l1) z)
 rw[hfull]at gAll;have h3:=h2.NV (b:=22) (k:=[.tok]) (x:=(GL 24 S).set s (Ao w1 l1.length)) (x':=GL H.next (S.set s l1)) (ro:=false) (by rw[gAll,JT (by omega),JT hw22,JT (by decide)];exact h22) (by rw[DS,SB,SB,DS]) (fun w hw=>by
  rw[D9]at hw ⊢;refine Am.ah _ _ _ (by rw[DS,SB,SB,DS]) (fun i v v' e1 e2 u hu=>?_) hw;rw[M7]at e2;rw[Q6]at e1 e2
  by_cases he:s=i
  ·subst he;rw[MB rfl]at e1 e2;rw[MB hs]at e2;rw[MB (by rw[DS];exact hs)]at e1;cases e1;cases e2
   exact c2 _ _ _ hu
  ·rw[JT he]at e1 e2;rw[M7]at e1;cases hS:S[i]? with
   | none=>rw[hS]at e1;cases e1
   | some l=>
    rw[hS]at e1 e2;cases e1;cases e2
    exact c1 i _ _ _ (gi he) (by rw[SB];exact(List.getElem?_eq_some_iff.1 hS).1) hu)
 refine⟨_,_,hle,h3,⟨T2,Ae.Af _ _ _⟩,rfl,?_,?_,fun z z1 z2 z3 z4=>?_⟩
 ·rw[AA.AU,JT (by omega),gAll,MB rfl]
 ·rw[AA.AU,MB rfl]
 ·rw[AA.AU,JT z2,gAll,JT z1,JT z3,JT z4]
theorem bg (h:AJ base W0 μ H W) {LK:FZ} {K:List (As × Aw)} {j y w3:Nat} {k:As} {l3:Aw} {krow:Cq} (h25:H.get 25=some (.abs (.mem Ah LK) false)) (hk:∃T,μ 25=some T) (hw:H.get w3=some (.vec Ah l3 false)) (hkw:∃T,μ w3=some T)
 (hy:H.get y=some (.vec EV krow false)) (hK:K[j]? = some (k,l3)) (σ:Nat->Nat) (hlen:krow.length=K.length)
 (Jl:∀(i:Nat) (p q:As × _),krow[i]? = some p->K[i]? = some q->p.1=q.1/\(i=j->p.2=Ao w3 l3.length)/\(i≠j->p.2= .slice (some ⟨25,1,some (σ i)⟩) q.2.length cU/\LK[σ i]? = some (some q.2)))
 (hσ:∀(i i':Nat),i≠j->i'≠j->i < K.length->i' < K.length->σ i=σ i'->i=i'):
 ∃μ2 H2,μ.le μ2/\AJ base W0 μ2 H2 W/\(∃T,μ2 H.next=some T)/\H2.next=H.next+1/\H2.get H.next=some (.abs (.mem Ah (DY K)) false)/\H2.get y=some (.vec EV (Df H.next K) false)/\∀z,z≠H.next->z≠y->z≠w3->z≠25->H2.get z=H.get z:=by
 obtain⟨T,hT⟩:=hk;obtain⟨M,hM⟩:=hkw;have hyl:=h.lt hy;have hjl:j < K.length:=(List.getElem?_eq_some_iff.1 hK).1;have hwy:y≠w3:=by rintro rfl;rw[hy]at hw;cases hw
 have hy25:y≠25:=by rintro rfl;rw[hy]at h25;cases h25
 have hC:(K.map Prod.snd).map some=DY K:=by unfold DY;rw[AAw];rfl
 have hsel:∀(i:Nat) (m:Aw),i≠j->(K.map Prod.snd)[i]? = some m->LK[σ i]? = some (some m):=fun i m hi hm=>by
  rw[Sy]at hm;cases hq:K[i]? with
  | none=>rw[hq]at hm;cases hm
  | some q=>
   rw[hq]at hm;cases hm
   have hil:=(List.getElem?_eq_some_iff.1 hq).1;exact((Jl i _ q (Jj (by rw[hlen];exact hil)) hq).2.2 hi).2
 obtain⟨T2,h2,c1,c2⟩:=h.qI (a:=25) (z:=w3) (j:=j) (k:=Ah) (by decide) (C:=K.map Prod.snd) h25 hT hw hM (by rw[Sy,hK];rfl) σ hsel (fun i i' a b c d e=>hσ i i' a b (by simpa using c) (by simpa using d) e);rw[hC]at h2;have hle:μ.le (μ.ext H.next T2):=Ae.Cc T2 (h.fresh H.next (GO _)).2;have hfull:((DY K).set j none).set j (some l3)=DY K:=by
  rw[AAb];have:(DY K)[j]? = some (some l3):=by unfold DY;rw[Sy,hK];rfl
  obtain⟨q1,q2⟩:=List.getElem?_eq_some_iff.1 this;rw[<-q2,yp]
 have gAll:=fun z=>(Jv (H:=H) (a:=25) (z:=w3) (j:=j) (k:=Ah) (L2:=(DY K).set j none) (l:=l3) z)
 rw[hfull]at gAll;have h3:=h2.NV (b:=y) (k:=EV) (x:=krow) (x':=Df H.next K) (ro:=false) (by rw[gAll,JT (by omega),JT hwy,JT hy25];exact hy) (by rw[DA,hlen]) (fun w hw=>by
  refine Am.iI _ _ _ (by rw[DA,hlen]) (fun i p p' e1 e2=>?_) hw;rw[JV]at e2;cases hq:K[i]? with
  | none=>rw[hq]at e2;cases e2
  | some q=>
   rw[hq]at e2;cases e2
   obtain⟨r1,r2,r3⟩:=Jl i p q e1 hq;refine⟨r1.symm,fun u hu=>?_⟩
   by_cases he:i=j
   ·subst he;rw[hK]at hq;cases hq
    rw[r2 rfl]at hu;exact c2 _ _ _ hu
   ·rw[(r3 he).1]at hu;exact c1 i _ _ _ he (by simpa using (List.getElem?_eq_some_iff.1 hq).1) hu)
 refine⟨_,_,hle,h3,⟨T2,Ae.Af _ _ _⟩,rfl,?_,?_,fun z z1 z2 z3 z4=>?_⟩
 ·rw[AA.AU,JT (by omega),gAll,MB rfl]
 ·rw[AA.AU,MB rfl]
 ·rw[AA.AU,JT z2,gAll,JT z1,JT z3,JT z4]
end
theorem pQ {N:Nat} {ids:AW} {b o n c:Nat} {s:Option Nat} (h:b < N):Np (Fw N ids) (.slice (some ⟨b,o,s⟩) n c)= .slice (some ⟨b,o,s⟩) n c:=by
 have e:Fw N ids b=some b:=by
  unfold Fw;rw[show Nat.blt b N=true from Ez h];rfl
 show(match Fw N ids b with | some i=>Value.slice (some ⟨i,o,s⟩) n c | none=>Bv)=_;rw[e]
def eX (N:Nat) (v:Value):Prop:=∃b o s n c,v= .slice (some ⟨b,o,s⟩) n c/\b < N
theorem I4 {N:Nat} (ids:AW) (l:AL) (h:∀v∈l,eX N v):List.map (Np (Fw N ids)) l=l:=by
 have:List.map (Np (Fw N ids)) l=List.map id l:=AAQ fun v hv=>by
  obtain⟨b,o,s,n,c,rfl,hb⟩:=h v hv;exact pQ hb
 rw[this,ABc]
theorem Mp {N:Nat} (ids:AW) (l:Cq) (h:∀p∈l,eX N p.2):YJ (Fw N ids) l=l:=by
 have:YJ (Fw N ids) l=List.map id l:=AAQ fun v hv=>by
  obtain⟨b,o,s,n,c,e,hb⟩:=h v hv;show(v.1,Np (Fw N ids) v.2)=v;rw[e,pQ hb,<-e]
 rw[this,ABc]
def Qk (q:Int) (a:As) (d:Bool) (z:Int) (e:NQ):Bool:=e.1==q&& !(e.1==q&&(ByteArray.toList e.2.1==ByteArray.toList a&&(e.2.2.1==d&&(e.2.2.2.2.2==z))))
def PB (q s:Int) (e:NQ):Bool:=e.1==q&&e.2.2.2.1==s
def Ke (q:Int) (a:As) (d:Bool) (s z:Int):Aw->Bool->Option Bool
 | [],hv=>some hv
 | e::r,hv=>bif Qk q a d z e then none else Ke q a d s z r (hv||PB q s e)
def S4 (ls:Aw) (o z:Int):Bool:=Z7 ls.length (G8 ls o) (J7 ls o)||
 ((decide ((J7 ls o:Int) > 0)&&decide (IntKind.wrap .i64 ((DI ls (J7 ls o - 1)).2.2.2.2.1+(DI ls (J7 ls o - 1)).2.2.2.2.2) > o))||
  (decide (J7 ls o < ls.length)&&decide (IntKind.wrap .i64 (o+z) > (DI ls (J7 ls o)).2.2.2.2.1)))
def ao (ls lk:Aw) (q:Int) (a:As) (d:Bool) (s o z:Int):Int:=match Ke q a d s z lk false with
 | none=>2
 | some hv=>bif hv||S4 ls o z then 6 else 0
structure Lw (ns nk:Nat) (row:List (EK.C [.tok])) (krow:Cq) (ls lk:Aw) (q:Int) (a:As) (d:Bool) (s:Nat) (o z:Int) (j:Nat):Prop where
 GQ:Mt q a d o z
 tC:∀v∈row,eX 28 v
 qC:∀p∈krow,eX 28 p.2
 hs:s < ns
 Pr:ns=row.length
 Jl:row.getD s (EK.BL [.tok])=Ao 26 ls.length
 Pu:nk=krow.length
 P3:nk < 80000
 hr:DC krow a=j
 hh:IL krow a=true
 hj:j < nk
 wS:(krow.getD j (EK.BL EV)).2=Ao 27 lk.length
 SP:ls.length < 80000
 np:lk.length < 80000
section
variable {ns nk:Nat} {row:List (EK.C [.tok])} {krow:Cq} {LS LK:FZ} {ls lk:Aw} {q:Int} {a:As} {d:Bool} {s:Nat} {o z:Int} {j:Nat}
def tp (ns nk:Nat) (row:List (EK.C [.tok])) (krow:Cq) (LS LK:FZ) (ls lk:Aw):LR:=(lM ns nk row krow LS LK ls lk).map some
theorem Gc {a b:Nat} (h:a < b):Nat.blt a b=true:=Ez h
theorem EI {a n:Nat} (h:a < n):(decide ((0:Int)<=(a:Int))&&Nat.blt a n)=true:=by
 rw[Gc h,KE (show(0:Int)<=(a:Int) by omega)];rfl
theorem My (h:Lw ns nk row krow ls lk q a d s o z j) (ids:AW):xo ids row=row:=I4 ids row h.tC
theorem M6 (h:Lw ns nk row krow ls lk q a d s o z j) (ids:AW):xc ids krow=krow:=Mp ids krow h.qC
theorem kr (h:Lw ns nk row krow ls lk q a d s o z j):IZ (SK.enc SK.tok (List.getD row s (EK.BL [SK.tok]))) (Ao 26 ls.length):=⟨h.Jl⟩
theorem qf (h:Lw ns nk row krow ls lk q a d s o z j):IZ (SK.enc SK.tok (Prod.snd (List.getD krow j (EK.BL EV)))) (Ao 27 lk.length):=⟨h.wS⟩
def Yw (ns nk:Nat) (row:List (EK.C [.tok])) (krow:Cq) (LS LK:FZ) (ls lk:Aw) (q:Int) (a:As) (d:Bool) (s:Nat) (o z:Int) (j:Nat) (res:Int) (v:Value) (H:AA):Prop:=
 v=int res/\((res≠0/\[20,21,22,23,24,25,26,27].map H.get=tp ns nk row krow LS LK ls lk)∨
  (res=0/\[20,21,22,23,24,25,32,35].map H.get=tp ns nk (row.set s (Ao 32 (ls.length+1))) (krow.set j ((krow.getD j (EK.BL EV)).1,Ao 35 (lk.length+1))) LS LK (HF ls (J7 ls o) (q,a,d,(s:Int),o,z)) (HF lk (PH lk.length (E5 lk q s)) (q,a,d,(s:Int),o,z))))
theorem nC (h:Lw ns nk row krow ls lk q a d s o z j):AX kG 28 AE (Yw ns nk row krow LS LK ls lk q a d s o z j 0) (vG ns nk row krow LS LK ls lk ls.length lk.length q a d s o z (J7 ls o)):=by
 have hr1:J7 ls o<=ls.length:=(Jz _ _ _ _ (ay _)).2;have hr2:PH lk.length (E5 lk q s)<=lk.length:=(Jz _ _ _ _ (ay _)).2;have et:List.take lk.length (List.drop 0 lk)=lk:=by rw[bl,Nw (GO _)]
 have Pr:=h.Pr;have SP:=h.SP;have np:=h.np;have Pu:=h.Pu;have P3:=h.P3;have hj:=h.hj;have i1:=EI h.hs;have i2:Nat.blt s row.length=true:=Gc (by rw[<-Pr];exact h.hs);have i3:=EI hj;have i4:Nat.blt j krow.length=true:=Gc (by rw[<-Pu];exact hj);have hv:CU kG (Ax (eT j true)) [(22,Ao 26 ls.length),(23,Ao 27 lk.length)] AE [20,21,22,23,24,25,32,35] 28 (fun v os=>v=int 0/\os=tp ns nk (row.set s (Ao 32 (ls.length+1))) (krow.set j ((krow.getD j (EK.BL EV)).1,Ao 35 (lk.length+1))) LS LK (HF ls (J7 ls o) (q,a,d,(s:Int),o,z)) (HF lk (PH lk.length (E5 lk q s)) (q,a,d,(s:Int),o,z))) 900 (vG ns nk row krow LS LK ls lk ls.length lk.length q a d s o z (J7 ls o)):=by
  rw[rQ];(conv=>zeta)
  rw[et];simp only[MG,RP,AA4]
  repeat' first
   | refine AB i1 ?_
   | refine AB i2 ?_
   | refine AB i3 ?_
   | refine AB i4 ?_
   | exact qf h
   | exact hr1
   | exact hr2
   | exact Pu
   | exact h.hr
   | exact h.hh
   | exact Lu (by omega)
   | omega
   | exact And.intro rfl rfl
   | exact rfl
   | apply And.intro
 refine AX.mono (BK (q8 j true).pf (by kernel_rfl) hv) fun v H hq=>?_
 obtain⟨e,hos⟩:=hq;subst e;exact⟨rfl,.inr ⟨rfl,hos⟩⟩
def xW (ls:Aw) (r:Nat) (o z:Int) (E6 M:Prop):Prop:=bif decide ((r:Int) < Int.ofNat ls.length)then(bif decide ((0:Int)<=(r:Int))&&Nat.blt r ls.length then(bif Nat.blt r ls.length then(bif decide (IntKind.wrap .i64 (o+z) > (DI ls r).2.2.2.2.1)then E6 else M)else False)else False)else M
def yd (ls:Aw) (r:Nat) (o z:Int) (E6 M:Prop):Prop:=bif decide ((r:Int) > 0)then(bif decide ((0:Int)<=IntKind.wrap .i64 ((r:Int) - 1))&&Nat.blt (Int.toNat (IntKind.wrap .i64 ((r:Int) - 1))) ls.length then(bif Nat.blt (Int.toNat (IntKind.wrap .i64 ((r:Int) - 1))) ls.length then
 (bif decide ((0:Int)<=IntKind.wrap .i64 ((r:Int) - 1))&&Nat.blt (Int.toNat (IntKind.wrap .i64 ((r:Int) - 1))) ls.length then(bif Nat.blt (Int.toNat (IntKind.wrap .i64 ((r:Int) - 1))) ls.length then
 (bif decide (IntKind.wrap .i64 ((DI ls (Int.toNat (IntKind.wrap .i64 ((r:Int) - 1)))).2.2.2.2.1+(DI ls (Int.toNat (IntKind.wrap .i64 ((r:Int) - 1)))).2.2.2.2.2) > o)then E6 else xW ls r o z E6 M)else False)else False)else False)else False)else xW ls r o z E6 M
theorem jU {ls:Aw} {r:Nat} {o z:Int} {E6 M:Prop} (h6:(decide (r < ls.length)&&decide (IntKind.wrap .i64 (o+z) > (DI ls r).2.2.2.2.1))=true->E6) (h0:(decide (r < ls.length)&&decide (IntKind.wrap .i64 (o+z) > (DI ls r).2.2.2.2.1))=false->M):xW ls r o z E6 M:=by
 unfold xW
 by_cases h:r < ls.length
 ·rw[KE h,AAM]at h6 h0;exact AB (KE (by show(r:Int) < (ls.length:Int);omega)) (AB (EI h) (AB (Gc h) (BX h6 h0)))
 ·rw[MC h]at h0;exact AZ (MC (by show ¬(r:Int) < (ls.length:Int);omega)) (h0 rfl)
theorem gW {ls:Aw} {r:Nat} {o z:Int} {E6 M:Prop} (hr:r<=ls.length) (hl:ls.length < 80000) (h6:((decide ((r:Int) > 0)&&decide (IntKind.wrap .i64 ((DI ls (r - 1)).2.2.2.2.1+(DI ls (r - 1)).2.2.2.2.2) > o))||(decide (r < ls.length)&&decide (IntKind.wrap .i64 (o+z) > (DI ls r).2.2.2.2.1)))=true->E6)
 (h0:((decide ((r:Int) > 0)&&decide (IntKind.wrap .i64 ((DI ls (r - 1)).2.2.2.2.1+(DI ls (r - 1)).2.2.2.2.2) > o))||(decide (r < ls.length)&&decide (IntKind.wrap .i64 (o+z) > (DI ls r).2.2.2.2.1)))=false->M):yd ls r o z E6 M:=by
 unfold yd
 by_cases h:(r:Int) > 0
 ·have e:IntKind.wrap .i64 ((r:Int) - 1)=((r - 1:Nat):Int):=by rw[wrap64 (by omega) (by omega)];omega
  rw[KE h,AAM]at h6 h0;rw[e,MG];have hlt:r - 1 < ls.length:=by omega
  refine AB (KE h) (AB (EI hlt) (AB (Gc hlt) (AB (EI hlt) (AB (Gc hlt) (BX (fun c=>h6 (by rw[c];rfl)) fun c=>?_)))));rw[c,yW]at h6 h0;exact jU h6 h0
 ·rw[MC h,AA2,yW]at h6 h0;exact AZ (MC h) (jU h6 h0)
theorem tW (h:Lw ns nk row krow ls lk q a d s o z j) {hv:Bool} (i:Nat) (hi:lk.length<=i) {Q:Bm} {R R2:Bz} (h6:(hv||S4 ls o z)=true->Q (int 6) (tp ns nk row krow LS LK ls lk)) (h0:(hv||S4 ls o z)=false->R2 (vG ns nk row krow LS LK ls lk ls.length lk.length q a d s o z (J7 ls o))):
 NH kG (Ax (eT j true)) [(22,Ao 26 ls.length),(23,Ao 27 lk.length)] AE [20,21,22,23,24,25,26,27] ql (fun c=>ql.here c) rf (O5 AE 0 0 20) lL Q R R2 900 (lQ ns nk row krow LS LK ls lk lk.length q a d s o z hv (i:Int)):=by
 have hr1:J7 ls o<=ls.length:=(Jz _ _ _ _ (ay _)).2;have Pr:=h.Pr;have SP:=h.SP;have i1:=EI h.hs;have i2:Nat.blt s row.length=true:=Gc (by rw[<-Pr];exact h.hs);rw[p7];(conv=>zeta);rw[My h,My h,M6 h,M6 h]
 have hlt:¬((i:Int) < (lk.length:Int)):=by omega
 refine AZ (MC hlt) ?_;unfold S4 at h6 h0;generalize hR:J7 ls o=r at hr1 h6 h0;have hR':PH ls.length (G8 ls o)=r:=hR;rw[hR'];simp only[MG,RP,AA4];refine AB i1 (AB i2 ⟨kr h,⟨by omega,?_⟩⟩);refine BX (fun c=>⟨by rw[c],AB i1 (AB i2 ⟨kr h,?_⟩)⟩) fun c=>⟨by rw[c],AB i1 (AB i2 ⟨kr h,?_⟩)⟩
 ·rw[c]at h6;have h6:=h6 (by cases hv<;>rfl);exact BX (fun _=>h6) fun _=>h6
 ·rw[c,yW]at h6 h0;refine BX (fun hv1=>h6 (by rw[hv1];rfl)) fun hv1=>?_
  rw[hv1,yW]at h6 h0;exact gW hr1 SP h6 h0
end
def QF (q:Int) (a:As) (d:Bool) (s o z:Int) (ls r:Aw) (hv:Bool):Int:=match Ke q a d s z r hv with
 | none=>2
 | some hv=>bif hv||S4 ls o z then 6 else 0
section
variable {ns nk:Nat} {row:List (EK.C [.tok])} {krow:Cq} {LS LK:FZ} {ls lk:Aw} {q:Int} {a:As} {d:Bool} {s:Nat} {o z:Int} {j:Nat}
theorem gN (i:Nat) (b:Bool):HO kG (Ax (eT i b)):=by
 have:=(q8 i b).pf;have e:Cv (eT i b)=Cv (eT 0 true):=rfl;rw[e]at this;exact this
theorem pA (h:Lw ns nk row krow ls lk q a d s o z j) {hv:Bool} {i:Nat} (hi:i < lk.length) {Q:Bm} {R R2:Bz} (h2:Qk q a d z (DI lk i)=true->Q (int 2) (tp ns nk row krow LS LK ls lk))
 (h0:Qk q a d z (DI lk i)=false->R (lQ ns nk row krow LS LK ls lk lk.length q a d s o z (hv||PB q s (DI lk i)) ((i+1:Nat):Int))):
 NH kG (Ax (eT j true)) [(22,Ao 26 ls.length),(23,Ao 27 lk.length)] AE [20,21,22,23,24,25,26,27] ql (fun c=>ql.here c) rf (O5 AE 0 0 20) lL Q R R2 900 (lQ ns nk row krow LS LK ls lk lk.length q a d s o z hv (i:Int)):=by
 have np:=h.np;rw[p7];(conv=>zeta);rw[My h,My h,M6 h,M6 h]
 have hw:IntKind.wrap .i64 ((i:Int)+1)=((i+1:Nat):Int):=by rw[wrap64 (by omega) (by omega)];rfl
 rw[hw];simp only[MG,RP,AA4,AAS,AAM,ABO];refine AB (KE (by omega)) (AB (EI hi) (AB (Gc hi) ?_));have e:List.getD lk i (EK.BL Ah)=DI lk i:=rfl;rw[e];unfold Qk at h2 h0;unfold PB at h0;generalize DI lk i=en at h2 h0 ⊢;cases h1:(en.1==q)
 ·rw[h1]at h0;have h0:=h0 rfl;refine AZ rfl (BX (fun e=>?_) fun e=>?_)
  ·subst e;exact h0
  ·subst e;exact AZ rfl h0
 ·rw[h1]at h0 h2;simp only[AAM]at h0 h2 ⊢;refine AB rfl (BX h2 fun c=>?_);have h0:=h0 c;refine BX (fun e=>?_) fun e=>?_
  ·subst e;exact h0
  ·subst e;refine AB rfl ?_;cases hs:(en.2.2.2.1==(s:Int))
   ·rw[hs]at h0;exact AZ rfl h0
   ·rw[hs]at h0;exact AB rfl h0
theorem l7 (h:Lw ns nk row krow ls lk q a d s o z j):∀(n i:Nat) (hv:Bool),lk.length - i=n->i<=lk.length->
 AX kG 28 AE (Yw ns nk row krow LS LK ls lk q a d s o z j (QF q a d s o z ls (lk.drop i) hv)) (lQ ns nk row krow LS LK ls lk lk.length q a d s o z hv i):=by
 intro n;induction n with
 | zero=>
  intro i hv hn hi;have hd:lk.drop i=[]:=ur (by omega);rw[hd];unfold QF Ke;simp only;refine IH (gN j true) (M:=28) (by kernel_rfl) (by decide) (by decide) (Q:=fun v os=>(hv||S4 ls o z)=true/\v=int 6/\os=tp ns nk row krow LS LK ls lk) (R:=fun _=>False) (R2:=fun c=>(hv||S4 ls o z)=false/\c=vG ns nk row krow LS LK ls lk ls.length lk.length q a d s o z (J7 ls o)) (fun v H hq=>?_) (fun c h=>h.elim) (fun c hc=>?_) 900 _ (tW h i (by omega) (fun e=>⟨e,rfl,rfl⟩) fun e=>⟨e,rfl⟩)
  ·obtain⟨e,rfl,hos⟩:=hq;rw[e];exact⟨rfl,.inl ⟨by show(6:Int)≠0;decide,hos⟩⟩
  ·obtain⟨e,rfl⟩:=hc;rw[e];exact nC h
 | succ n ih=>
  intro i hv hn hi;have hlt:i < lk.length:=by omega
  have hd:lk.drop i=DI lk i::lk.drop (i+1):=by
   rw[uP hlt]
   congr 1
   unfold DI;rw[Kd,Jj hlt];rfl
  have hres:QF q a d s o z ls (lk.drop i) hv=bif Qk q a d z (DI lk i)then 2 else QF q a d s o z ls (lk.drop (i+1)) (hv||PB q s (DI lk i)):=by
   rw[hd];unfold QF;have ef:Ke q a d s z (DI lk i::lk.drop (i+1)) hv=bif Qk q a d z (DI lk i)then none else Ke q a d s z (lk.drop (i+1)) (hv||PB q s (DI lk i)):=rfl
   rw[ef];cases Qk q a d z (DI lk i)<;>rfl
  rw[hres];refine IH (gN j true) (M:=28) (by kernel_rfl) (by decide) (by decide) (Q:=fun v os=>Qk q a d z (DI lk i)=true/\v=int 2/\os=tp ns nk row krow LS LK ls lk) (R:=fun c=>Qk q a d z (DI lk i)=false/\c=lQ ns nk row krow LS LK ls lk lk.length q a d s o z (hv||PB q s (DI lk i)) ((i+1:Nat):Int)) (R2:=fun _=>False) (fun v H hq=>?_) (fun c hc=>?_) (fun c h=>h.elim) 900 _ (pA h hlt (fun e=>⟨e,rfl,rfl⟩) fun e=>⟨e,rfl⟩)
  ·obtain⟨e,rfl,hos⟩:=hq;rw[e];exact⟨rfl,.inl ⟨by show(2:Int)≠0;decide,hos⟩⟩
  ·obtain⟨e,rfl⟩:=hc;rw[e];exact ih (i+1) _ (by omega) (by omega)
theorem uM (h:Lw ns nk row krow ls lk q a d s o z j):AX kG 28 AE (Yw ns nk row krow LS LK ls lk q a d s o z j (ao ls lk q a d s o z)) (st AE [At 20,G6 q a d s o z] (hp (lM ns nk row krow LS LK ls lk))):=by
 have Pu:=h.Pu;have P3:=h.P3;have hj:=h.hj;have hns0:=h.hs;have i3:=EI hj;have i4:Nat.blt j krow.length=true:=Gc (by rw[<-Pu];exact hj);refine Bq (gN j true) [(22,Ao 26 ls.length),(23,Ao 27 lk.length)] [20,21,22,23,24,25,26,27] ql lL (by kernel_rfl) (show 28<=28 from GO _) (fun _ _=>False) (fun c=>c=lQ ns nk row krow LS LK ls lk lk.length q a d s o z false 0) (fun v H h=>h.elim) (fun c hc=>by rw[hc];exact l7 h lk.length 0 false (by omega) (ay _)) (n:=600) ?_;rw[rF];(conv=>zeta);rw[My h,M6 h]
 simp only[MG,RP,AA4];have hs0:0 < ns:=by omega
 have hd:decide ((s:Int) < Int.ofNat ns)=true:=KE (by show(s:Int) < (ns:Int);omega);have hf:nk=krow.length/\nk < 1000000/\DC krow a=j/\IL krow a=true:=⟨Pu,by omega,h.hr,h.hh⟩
 repeat' first
  | exact hf
  | exact h.GQ
  | exact qf h
  | exact hs0
  | refine AB hd ?_
  | refine AB i3 ?_
  | refine AB i4 ?_
  | exact rfl
  | exact trivial
  | apply And.intro
end
structure Na (ns nk:Nat) (row:List (EK.C [.tok])) (krow:Cq) (ls:Aw) (q:Int) (a:As) (d:Bool) (s:Nat) (o z:Int) (j:Nat):Prop where
 GQ:Mt q a d o z
 tC:∀v∈row,eX 27 v
 qC:∀p∈krow,eX 27 p.2
 hs:s < ns
 Pr:ns=row.length
 Jl:row.getD s (EK.BL [.tok])=Ao 26 ls.length
 Pu:nk=krow.length
 P3:nk < 80000
 hr:DC krow a=j
 hh:IL krow a=false
 SP:ls.length < 80000
theorem gS (i:Nat):HO sZ (Ax (SR i)):=by
 have:=(qF i).pf;have e:Cv (SR i)=Cv (SR 0):=rfl;rw[e]at this;exact this
theorem fw (i:Nat):HO cx (Ax (SE i)):=by
 have:=(gU i).pf;have e:Cv (SE i)=Cv (SE 0):=rfl;rw[e]at this;exact this
theorem qM {n:Nat} (h:n < 100000):BQ 40 n=true:=by
 unfold BQ;rw[Ez (by omega),Ez (by omega)];rfl
theorem mw (l:Cq) (h:∀p∈l,eX 27 p.2):(Ag EV l).all Bh=true:=by
 rw[AAW];intro v hv;unfold Ag at hv;obtain⟨p,hp,hv⟩:=List.mem_flatMap.1 hv;obtain⟨b,o,s,n,c,e,hb⟩:=h p hp;have:v= .string p.1∨v=p.2:=by
  have:v∈[Value.string p.1,p.2]:=hv;simpa using this
 rcases this with rfl | rfl
 ·rfl
 ·rw[e];rfl
section
variable {ns nk:Nat} {row:List (EK.C [.tok])} {krow:Cq} {LS LK:FZ} {ls:Aw} {q:Int} {a:As} {d:Bool} {s:Nat} {o z:Int} {j:Nat}
def xU (ns nk:Nat) (row:List (EK.C [.tok])) (krow:Cq) (LS LK:FZ) (ls:Aw):LR:=(Rh ns nk row krow LS LK ls).map some
theorem fc (h:Na ns nk row krow ls q a d s o z j) (ids:AW):se ids row=row:=I4 ids row h.tC
theorem fu (h:Na ns nk row krow ls q a d s o z j) (ids:AW):sv ids krow=krow:=Mp ids krow h.qC
theorem VD (h:Na ns nk row krow ls q a d s o z j):IZ (SK.enc SK.tok (List.getD row s (EK.BL [SK.tok]))) (Ao 26 ls.length):=⟨h.Jl⟩
def Qe (ns nk:Nat) (row:List (EK.C [.tok])) (krow:Cq) (LS LK:FZ) (ls:Aw) (q:Int) (a:As) (d:Bool) (s:Nat) (o z:Int) (j:Nat) (res:Int) (v:Value) (H:AA):Prop:=
 v=int res/\((res≠0/\[20,21,22,23,24,25,26].map H.get=xU ns nk row krow LS LK ls)∨
  (res=0/\[20,21,22,24,25,31,36,34].map H.get=[some (.cells [At 21,Ao 22 ns] 0 false),some (.cells [.bool true,Ao 36 (nk+1)] 0 false),some (.vec [.tok] (row.set s (Ao 31 (ls.length+1))) false),some (.abs (.mem Ah LS) false),some (.abs (.mem Ah LK) false),some (.vec Ah (HF ls (J7 ls o) (q,a,d,(s:Int),o,z)) false),some (.vec EV (krow.take j++((a,Ao 34 1)::krow.drop j)) false),some (.vec Ah [(q,a,d,(s:Int),o,z)] false)]))
theorem iw (h:Na ns nk row krow ls q a d s o z j) (hj:j < nk):AX sZ 27 AE (Qe ns nk row krow LS LK ls q a d s o z j 0) (iN ns nk row krow LS LK ls ls.length q a d s o z (J7 ls o)):=by
 have hr1:J7 ls o<=ls.length:=(Jz _ _ _ _ (ay _)).2;have Pr:=h.Pr;have SP:=h.SP;have Pu:=h.Pu;have P3:=h.P3;have i1:=EI h.hs;have i2:Nat.blt s row.length=true:=Gc (by rw[<-Pr];exact h.hs);have et:List.take nk (List.drop 0 krow)=krow:=by rw[bl,Nw (by omega)]
 have hv:CU sZ (Ax (SR j)) [(22,Ao 26 ls.length)] AE [20,21,22,23,24,25,31,36,34] 27 (fun v os=>v=int 0/\os=[some (.cells [At 21,Ao 22 ns] 0 false),some (.cells [.bool true,Ao 36 (nk+1)] 0 false),some (.vec [.tok] (row.set s (Ao 31 (ls.length+1))) false),none,some (.abs (.mem Ah LS) false),some (.abs (.mem Ah LK) false),some (.vec Ah (HF ls (J7 ls o) (q,a,d,(s:Int),o,z)) false),some (.vec EV (krow.take j++((a,Ao 34 1)::krow.drop j)) false),some (.vec Ah [(q,a,d,(s:Int),o,z)] false)]) 900 (iN ns nk row krow LS LK ls ls.length q a d s o z (J7 ls o)):=by
  rw[sw];(conv=>zeta)
  rw[et];simp only[MG,RP,AA4]
  repeat' first
   | refine AB i1 ?_
   | refine AB i2 ?_
   | exact VD h
   | exact hr1
   | exact Pu
   | exact h.hr
   | exact h.hh
   | exact mw krow h.qC
   | exact Int.ofNat_lt.2 hj
   | exact uf _
   | exact qM (by omega)
   | omega
   | exact And.intro rfl rfl
   | exact trivial
   | exact rfl
   | apply And.intro
 refine AX.mono (BK (gS j) (by kernel_rfl) hv) fun v H hq=>?_
 obtain⟨e,hos⟩:=hq;subst e;refine⟨rfl,.inr ⟨rfl,?_⟩⟩;have hos:[20,21,22,23,24,25,31,36,34].map H.get=_:=hos;simp only[Sm,o6,Nh,iy]at hos ⊢;obtain⟨g1,g2,g3,g4,g5,g6,g7,g8,g9⟩:=hos;exact⟨g1,g2,g3,g5,g6,g7,g8,g9⟩
theorem jE (h:Na ns nk row krow ls q a d s o z j) (hj:j=nk):AX cx 27 AE (Qe ns nk row krow LS LK ls q a d s o z j 0) (iN ns nk row krow LS LK ls ls.length q a d s o z (J7 ls o)):=by
 have hr1:J7 ls o<=ls.length:=(Jz _ _ _ _ (ay _)).2;have Pr:=h.Pr;have SP:=h.SP;have Pu:=h.Pu;have P3:=h.P3;have i1:=EI h.hs;have i2:Nat.blt s row.length=true:=Gc (by rw[<-Pr];exact h.hs);have et:List.take nk (List.drop 0 krow)=krow:=by rw[bl,Nw (by omega)]
 have e1:(decide ((0:Int)<=Int.ofNat nk)&&Nat.ble (Int.toNat (Int.ofNat nk)) nk&&decide ((0:Int)<=(j:Int))&&Nat.ble (Int.toNat (j:Int)) (Int.toNat (Int.ofNat nk)))=true:=by
  rw[hj];have:Nat.ble nk nk=true:=Ez (GO _);have e0:decide ((0:Int)<=(nk:Int))=true:=KE (uf _);show(decide ((0:Int)<=(nk:Int))&&Nat.ble nk nk&&decide ((0:Int)<=(nk:Int))&&Nat.ble nk nk)=true;rw[this,e0];rfl
 have e2:((j:Int)==Int.ofNat nk)=true:=by rw[hj];exact AAS _
 have e3:(true&&Nat.ble (0+nk) krow.length&&BQ 40 (nk+1))=true:=by
  rw[RP,Pu,Ez (GO _),qM (by omega)];rfl
 have ed:krow.take j++((a,Ao 34 1)::krow.drop j)=krow++[(a,Ao 34 1)]:=by
  rw[hj,Pu,qs,ABS]
 have hv:CU cx (Ax (SE j)) [(22,Ao 26 ls.length)] AE [20,21,22,23,24,25,31,36,34] 27 (fun v os=>v=int 0/\os=[some (.cells [At 21,Ao 22 ns] 0 false),some (.cells [.bool true,Ao 36 (nk+1)] 0 false),some (.vec [.tok] (row.set s (Ao 31 (ls.length+1))) false),none,some (.abs (.mem Ah LS) false),some (.abs (.mem Ah LK) false),some (.vec Ah (HF ls (J7 ls o) (q,a,d,(s:Int),o,z)) false),some (.vec EV (krow++[(a,Ao 34 1)]) false),some (.vec Ah [(q,a,d,(s:Int),o,z)] false)]) 900 (iN ns nk row krow LS LK ls ls.length q a d s o z (J7 ls o)):=by
  rw[sr];(conv=>zeta)
  rw[et,e1,e2,e3];simp only[MG,RP,AA4]
  repeat' first
   | refine AB i1 ?_
   | refine AB i2 ?_
   | refine AB rfl ?_
   | exact VD h
   | exact hr1
   | exact Pu
   | exact h.hr
   | exact h.hh
   | omega
   | exact And.intro rfl rfl
   | exact trivial
   | exact rfl
   | apply And.intro
 refine AX.mono (BK (fw j) (by kernel_rfl) hv) fun v H hq=>?_
 obtain⟨e,hos⟩:=hq;subst e;refine⟨rfl,.inr ⟨rfl,?_⟩⟩;rw[ed];have hos:[20,21,22,23,24,25,31,36,34].map H.get=_:=hos;simp only[Sm,o6,Nh,iy]at hos ⊢;obtain⟨g1,g2,g3,g4,g5,g6,g7,g8,g9⟩:=hos;exact⟨g1,g2,g3,g5,g6,g7,g8,g9⟩
theorem jD {X:Ctx} {pf:Pf} (h:Na ns nk row krow ls q a d s o z j) {Q:Bm} {R:Bz}
 (ht:NH X pf [(22,Ao 26 ls.length)] AE [20,21,22,23,24,25,26] lP (O5 AE 0 0 20) lP (fun _=>false) lL Q R (fun _=>False) 900 (st AE [At 20,G6 q a d s o z] (hp (Rh ns nk row krow LS LK ls)))=
  NH sZ (Ax (SR j)) [(22,Ao 26 ls.length)] AE [20,21,22,23,24,25,26] lP (O5 AE 0 0 20) lP (fun _=>false) lL Q R (fun _=>False) 900 (st AE [At 20,G6 q a d s o z] (hp (Rh ns nk row krow LS LK ls))))
 (h6:S4 ls o z=true->Q (int 6) (xU ns nk row krow LS LK ls)) (h0:S4 ls o z=false->R (iN ns nk row krow LS LK ls ls.length q a d s o z (J7 ls o))):
 NH X pf [(22,Ao 26 ls.length)] AE [20,21,22,23,24,25,26] lP (O5 AE 0 0 20) lP (fun _=>false) lL Q R (fun _=>False) 900 (st AE [At 20,G6 q a d s o z] (hp (Rh ns nk row krow LS LK ls))):=by
 rw[ht];have hr1:J7 ls o<=ls.length:=(Jz _ _ _ _ (ay _)).2;have Pr:=h.Pr;have SP:=h.SP;have Pu:=h.Pu;have P3:=h.P3;have i1:=EI h.hs;have i2:Nat.blt s row.length=true:=Gc (by rw[<-Pr];exact h.hs);rw[qY];(conv=>zeta);rw[fc h,fu h]
 unfold S4 at h6 h0;generalize hR:J7 ls o=r at hr1 h6 h0;have hR':PH ls.length (G8 ls o)=r:=hR;rw[hR'];simp only[MG,RP,AA4];have hs0:0 < ns:=by have:=h.hs;omega
 have hd:decide ((s:Int) < Int.ofNat ns)=true:=KE (by show(s:Int) < (ns:Int);have:=h.hs;omega);have hf:nk=krow.length/\nk < 1000000/\DC krow a=j/\IL krow a=false:=⟨Pu,by omega,h.hr,h.hh⟩;refine⟨hs0,hs0,AB hd ⟨h.GQ,hf,hs0,hf,AB i1 (AB i2 ⟨VD h,⟨by omega,?_⟩⟩)⟩⟩;refine BX (fun c=>⟨by rw[c],AB i1 (AB i2 ⟨VD h,?_⟩)⟩) fun c=>⟨by rw[c],AB i1 (AB i2 ⟨VD h,?_⟩)⟩
 ·rw[c]at h6;exact h6 rfl
 ·rw[c,yW]at h6 h0;exact gW hr1 SP h6 h0
theorem oU (h:Na ns nk row krow ls q a d s o z j) (hj:j < nk):AX sZ 27 AE (Qe ns nk row krow LS LK ls q a d s o z j (bif S4 ls o z then 6 else 0)) (st AE [At 20,G6 q a d s o z] (hp (Rh ns nk row krow LS LK ls))):=by
 refine IH (gS j) (M:=27) (by kernel_rfl) (by decide) (by decide) (Q:=fun v os=>S4 ls o z=true/\v=int 6/\os=xU ns nk row krow LS LK ls) (R:=fun c=>S4 ls o z=false/\c=iN ns nk row krow LS LK ls ls.length q a d s o z (J7 ls o)) (R2:=fun _=>False) (fun v H hq=>?_) (fun c hc=>?_) (fun c h=>h.elim) 900 _ (jD h rfl (fun e=>⟨e,rfl,rfl⟩) fun e=>⟨e,rfl⟩)
 ·obtain⟨e,rfl,hos⟩:=hq;rw[e];exact⟨rfl,.inl ⟨by show(6:Int)≠0;decide,hos⟩⟩
 ·obtain⟨e,rfl⟩:=hc;rw[e];exact iw h hj
theorem l4 (h:Na ns nk row krow ls q a d s o z j) (hj:j=nk):AX cx 27 AE (Qe ns nk row krow LS LK ls q a d s o z j (bif S4 ls o z then 6 else 0)) (st AE [At 20,G6 q a d s o z] (hp (Rh ns nk row krow LS LK ls))):=by
 refine IH (fw j) (M:=27) (by kernel_rfl) (by decide) (by decide) (Q:=fun v os=>S4 ls o z=true/\v=int 6/\os=xU ns nk row krow LS LK ls) (R:=fun c=>S4 ls o z=false/\c=iN ns nk row krow LS LK ls ls.length q a d s o z (J7 ls o)) (R2:=fun _=>False) (fun v H hq=>?_) (fun c hc=>?_) (fun c h=>h.elim) 900 _ (jD h (by rw[uh,qY]) (fun e=>⟨e,rfl,rfl⟩) fun e=>⟨e,rfl⟩)
 ·obtain⟨e,rfl,hos⟩:=hq;rw[e];exact⟨rfl,.inl ⟨by show(6:Int)≠0;decide,hos⟩⟩
 ·obtain⟨e,rfl⟩:=hc;rw[e];exact jE h hj
end
theorem Xw {X:Ctx} {f:FuncId} {c:BT} {v:Value} {H:AA} (h:FC X f c=some (v,H)):H=c.H:=by
 obtain⟨⟨fn,t,nn,todo,ds,r,kd,rr⟩,cs,H0⟩:=c;unfold FC at h;simp only at h;split at h
 ·cases hb:Nat.beq fn f
  ·simp only[hb,EB]at h;cases h
  ·simp only[hb,C8]at h;split at h
   ·cases h;rfl
   ·cases h
 ·cases h
theorem AX.iW {X:Ctx} {N:Nat} {D:Nat->Prop} {f:FuncId} {Q Q':Ih} {c:BT} (h:AX X N f Q c)
 (hq:∀(v:Value) (H:AA) (base:Env) (W0 W:World) (μ:Ae),Q v H->(∀b,D b->∃T,μ b=some T)->AJ base W0 μ H W->∃v2 H2,Q' v2 H2/\∀v',AH μ v v'->∃μ2,μ.le μ2/\AJ base W0 μ2 H2 W/\AH μ2 v2 v'):Ak X N D f Q' c:=by
 intro base W0 hb hDm hok hplan cs0 μ fr cs W hm;obtain⟨c',⟨v,H,h1,h2⟩,μ1,fr1,cs1,W1,s1,m1⟩:=h base W0 hb hok hplan cs0 μ fr cs W hm;have e:=Xw h1;have hH:AJ base W0 μ1 H W1:=by rw[e];exact m1.heap
 obtain⟨v2,H2,k1,k2⟩:=hq v H base W0 W1 μ1 h2 (fun b hb=>by obtain⟨T,hT⟩:=hDm b hb;exact⟨T,hH.le b T hT⟩) hH;exact⟨c',v,H,v2,H2,h1,k1,μ1,fr1,cs1,W1,s1,m1,fun v' hv _=>k2 v' hv⟩
theorem dK {l l2:Cq} (h:l.map Prod.fst=l2.map Prod.fst) (k:As):N0 l k=N0 l2 k:=by
 funext m
 unfold N0;have hm:(l.map Prod.fst)[m]? = (l2.map Prod.fst)[m]?:=by rw[h]
 rw[Sy,Sy]at hm;rw[Kd,Kd];cases h1:l[m]?<;>cases h2:l2[m]?<;>rw[h1,h2]at hm<;>first | rfl | cases hm | (injection hm with hm;show Op.bytesLess (ByteArray.toList (Prod.fst _)) _=Op.bytesLess (ByteArray.toList (Prod.fst _)) _;simp only[rU];rw[hm])
theorem Q5 {l l2:Cq} (h:l.map Prod.fst=l2.map Prod.fst) (k:As):DC l k=DC l2 k:=by
 have hl:l.length=l2.length:=by simpa using congrArg List.length h
 unfold DC;rw[dK h,hl]
theorem eC {l l2:Cq} (h:l.map Prod.fst=l2.map Prod.fst) (k:As):IL l k=IL l2 k:=by
 have hl:l.length=l2.length:=by simpa using congrArg List.length h
 unfold IL;rw[Q5 h,hl];have hm:(l.map Prod.fst)[DC l2 k]? = (l2.map Prod.fst)[DC l2 k]?:=by rw[h]
 rw[Sy,Sy]at hm;rw[Kd,Kd];generalize DC l2 k=r at hm;cases h1:l[r]?<;>cases h2:l2[r]?<;>rw[h1,h2]at hm<;>first | rfl | cases hm | (injection hm with hm;simp only[rU];rw[hm])
theorem Uc (a:Nat) (K:List (As × Aw)) {j:Nat} {k:As} {l:Aw} (hj:K[j]? = some (k,l)) (v:Value):((Df a K).set j (k,v)).map Prod.fst=(Df a K).map Prod.fst:=by
 apply AAs
 intro i;rw[Sy,Sy,Q6]
 by_cases he:j=i
 ·subst he;rw[MB rfl,DA,MB (List.getElem?_eq_some_iff.1 hj).1,JV,hj];rfl
 ·rw[JT he]
theorem ou {l:Cq} {k:As} (h:IL l k=true):DC l k < l.length:=by
 unfold IL at h;rw[Dg]at h;exact rM h.1
theorem U4 (l:Cq) (k:As):DC l k<=l.length:=(Jz _ _ _ _ (ay _)).2
def Ey (x:Cm) (a:As):Nat:=DC (Df 25 x.keys) a
def Ie (x:Cm) (a:As):Bool:=IL (Df 25 x.keys) a
def Mz (x:Cm) (a:As):Aw:=bif Ie x a then(x.keys.getD (Ey x a) (a,[])).2 else []
def C7 (x:Cm) (s:Nat):Aw:=x.AR.getD s []
def El (x:Cm) (q:Int) (a:As) (d:Bool) (s:Nat) (o z:Int):Int:=ao (C7 x s) (Mz x a) q a d s o z
def Lq (x:Cm) (q:Int) (a:As) (d:Bool) (s:Nat) (o z:Int):List (As × Aw):=
 bif Ie x a then x.keys.set (Ey x a) ((x.keys.getD (Ey x a) (a,[])).1,HF (Mz x a) (PH (Mz x a).length (E5 (Mz x a) q s)) (q,a,d,(s:Int),o,z))else x.keys.take (Ey x a)++((a,[(q,a,d,(s:Int),o,z)])::x.keys.drop (Ey x a))
def JO (x:Cm) (q:Int) (a:As) (d:Bool) (s:Nat) (o z:Int):Cm:=
 bif El x q a d s o z==0 then⟨Lq x q a d s o z,x.AR.set s (HF (C7 x s) (J7 (C7 x s) o) (q,a,d,(s:Int),o,z))⟩else x
structure Lr (x:Cm) (q:Int) (a:As) (d:Bool) (s:Nat) (o z:Int):Prop where
 GQ:Mt q a d o z
 hs:s < x.AR.length
 hk:x.keys.length < 80000
 SP:(C7 x s).length < 80000
 np:(Mz x a).length < 80000
theorem ta {laid:Co} {r:Int} {x:Cm} {H:AA} (h:H.get 20=some (.abs (.pack (.idx x)) false)):Db laid 20 1 [true] ⟨int r,[some (.abs (.pack (.idx x)) false)],[]⟩ (int r) H:=by
 refine⟨[],dG,fun b hb=>(by cases hb),rfl,rfl,fun j b o hj=>(by cases hj),fun j o hj hm ho=>?_⟩;have hj:j=0:=by omega
 subst hj;cases ho
 exact⟨_,rfl,h⟩
section
variable {base:Env} {W0 W:World} {μ:Ae} {H:AA}
theorem U5 (h:AJ base W0 μ H W) (hd:∀z∈[20,21,22,23,24,25],∃T,μ z=some T) {x:Cm} {s w1:Nat} {l1:Aw} (hs:s < x.AR.length) (hw:H.get w1=some (.vec Ah l1 false)) (hkw:∃T,μ w1=some T) (hx:25 < w1)
 (g20:H.get 20=some (.cells [At 21,Ao 22 x.AR.length] 0 false)) (g21:H.get 21=some (.cells [.bool true,Ao 23 x.keys.length] 0 false)) (g22:H.get 22=some (.vec [.tok] ((GL 24 x.AR).set s (Ao w1 l1.length)) false)) (g23:H.get 23=some (.vec EV (Df 25 x.keys) false))
 (g24:H.get 24=some (.abs (.mem Ah (Ip x.AR s)) false)) (g25:H.get 25=some (.abs (.mem Ah (DY x.keys)) false)):
 ∃μ2 H2,μ.le μ2/\AJ base W0 μ2 H2 W/\H2.get 20=some (.abs (.pack (.idx ⟨x.keys,x.AR.set s l1⟩)) false)/\∀z,25 < z->z≠w1->z≠H.next->H2.get z=H.get z:=by
 have w25:=h.lt hw;obtain⟨μ2,H2,k1,k2,k3,k4,k5,k6,k7⟩:=SZ h hs g24 (hd 24 (by decide)) hw hkw g22;have hI:rD 21 22 23 H.next 25 ⟨x.keys,x.AR.set s l1⟩ H2:=by
  refine⟨by simp;omega,?_,?_,k6,?_,k5,?_⟩
  ·rw[k7 20 (by omega) (by decide) (by omega) (by decide),g20,SB]
  ·rw[k7 21 (by omega) (by decide) (by omega) (by decide),g21]
  ·rw[k7 23 (by omega) (by decide) (by omega) (by decide),g23]
  ·rw[k7 25 (by omega) (by decide) (by omega) (by decide),g25]
 have hd2:∀z∈[20,21,22,23,H.next,25],∃T,μ2 z=some T:=by
  intro z hz
  by_cases e:z=H.next
  ·rw[e];exact k3
  ·obtain⟨T,hT⟩:=hd z (by simp at hz ⊢;omega);exact⟨T,k1 z T hT⟩
 obtain⟨r1,r2⟩:=bE k2 hI hd2;refine⟨μ2,_,k1,r1,r2,fun z z1 z2 z3=>?_⟩;rw[(E2 (s:= .idx ⟨x.keys,x.AR.set s l1⟩) (H:=H2) hI.nd).GK z (by simp;omega),k7 z z3 (by omega) z2 (by omega)]
theorem RM (h:AJ base W0 μ H W) {y w1 w3 s j:Nat} (hd:∀z∈[20,21,22,y,24,25,w1,w3],∃T,μ z=some T) (hnd:[20,21,22,y,24,25,w1,w3].Nodup) {S:List (Aw)} {K:List (As × Aw)} {LK:FZ} {krow:Cq} {k:As} {l1 l3:Aw} (hs:s < S.length)
 (hw:H.get w1=some (.vec Ah l1 false)) (hw3:H.get w3=some (.vec Ah l3 false))
 (g20:H.get 20=some (.cells [At 21,Ao 22 S.length] 0 false)) (g21:H.get 21=some (.cells [.bool true,Ao y K.length] 0 false)) (g22:H.get 22=some (.vec [.tok] ((GL 24 S).set s (Ao w1 l1.length)) false)) (gy:H.get y=some (.vec EV krow false))
 (g24:H.get 24=some (.abs (.mem Ah (Ip S s)) false)) (g25:H.get 25=some (.abs (.mem Ah LK) false)) (hK:K[j]? = some (k,l3)) (σ:Nat->Nat) (hlen:krow.length=K.length)
 (Jl:∀(i:Nat) (p q:As × _),krow[i]? = some p->K[i]? = some q->p.1=q.1/\(i=j->p.2=Ao w3 l3.length)/\(i≠j->p.2= .slice (some ⟨25,1,some (σ i)⟩) q.2.length cU/\LK[σ i]? = some (some q.2)))
 (hσ:∀(i i':Nat),i≠j->i'≠j->i < K.length->i' < K.length->σ i=σ i'->i=i'):
 ∃μ2 H2,μ.le μ2/\AJ base W0 μ2 H2 W/\H2.get 20=some (.abs (.pack (.idx ⟨K,S.set s l1⟩)) false):=by
 have l20:=h.lt g20;have l21:=h.lt g21;have l22:=h.lt g22;have ly:=h.lt gy;have l24:=h.lt g24;have l25:=h.lt g25;have lw:=h.lt hw;have lw3:=h.lt hw3;simp only[lW,Ul,bG,vK,AAq,dG,iy]at hnd;obtain⟨⟨_,_,n203,_,_,n206,n207⟩,⟨_,n213,_,_,n216,n217⟩,⟨n223,_,_,n226,n227⟩,⟨ny24,ny25,nyw1,nyw3⟩,⟨_,n246,n247⟩,⟨n256,n257⟩,n67⟩:=hnd;obtain⟨μ2,H2,k1,k2,k3,k4,k5,k6,k7⟩:=SZ h hs g24 (hd 24 (by simp)) hw (hd w1 (by simp)) g22;have up:∀z∈[20,21,22,y,24,25,w1,w3],∃T,μ2 z=some T:=fun z hz=>by obtain⟨T,hT⟩:=hd z hz;exact⟨T,k1 z T hT⟩
 obtain⟨μ3,H3,m1,m2,m3,m4,m5,m6,m7⟩:=bg k2 (j:=j) (y:=y) (w3:=w3) (krow:=krow) (LK:=LK) (by rw[k7 25 (by omega) (by omega) (by omega) (by omega)];exact g25) (up 25 (by simp)) (by rw[k7 w3 (by omega) (by omega) (by omega) (by omega)];exact hw3) (up w3 (by simp)) (by rw[k7 y (by omega) (by omega) (by omega) (by omega)];exact gy) hK σ hlen Jl hσ;rw[k4]at m3 m5 m6 m7;have hI:rD 21 22 y H.next (H.next+1) ⟨K,S.set s l1⟩ H3:=by
  refine⟨by simp;omega,?_,?_,?_,m6,?_,m5⟩
  ·rw[m7 20 (by omega) (by omega) (by omega) (by omega),k7 20 (by omega) (by omega) (by omega) (by omega),g20,SB]
  ·rw[m7 21 (by omega) (by omega) (by omega) (by omega),k7 21 (by omega) (by omega) (by omega) (by omega),g21]
  ·rw[m7 22 (by omega) (by omega) (by omega) (by omega),k6]
  ·rw[m7 H.next (by omega) (by omega) (by omega) (by omega),k5]
 have hd2:∀z∈[20,21,22,y,H.next,H.next+1],∃T,μ3 z=some T:=by
  intro z hz
  by_cases e:z=H.next+1
  ·rw[e];exact m3
  ·by_cases e2:z=H.next
   ·rw[e2];obtain⟨T,hT⟩:=k3;exact⟨T,m1 _ T hT⟩
   ·obtain⟨T,hT⟩:=up z (by simp at hz ⊢;omega);exact⟨T,m1 z T hT⟩
 obtain⟨r1,r2⟩:=bE m2 hI hd2;exact⟨μ3,_,Ae.le_trans k1 m1,r1,r2⟩
end
theorem CY.or {P:Program} {laid:Co} {f:FuncId} {F F1 F2:DO} (h1:CY P laid f F1) (h2:CY P laid f F2) (hs:∀args H r,F args H=some r->F1 args H=some r∨F2 args H=some r):CY P laid f F:=
 ⟨h1.1,fun base W0 μ H W args args' v H' hW hH hl ha hF=>(hs _ _ _ hF).elim (fun h=>h1.2 base W0 μ H W args args' v H' hW hH hl ha h) (fun h=>h2.2 base W0 μ H W args args' v H' hW hH hl ha h)⟩
theorem dx {laid:Co} {N:Nat} {mu:List Bool} {G G1 G2:AL->BN->GT} (hG:∀a o x,(G a o).run=some x->(G1 a o).run=some x∨(G2 a o).run=some x)
 (args:AL) (H:AA) (r:Value × AA) (h:Ai laid N mu G args H=some r):Ai laid N mu G1 args H=some r∨Ai laid N mu G2 args H=some r:=by
 unfold Ai at h ⊢;generalize Cr H N 200 (args.flatMap (Au 4)) []=bs at h ⊢;generalize DB (Dr (Oa laid N bs)) args=A at h ⊢;generalize WS (Oa laid N bs) H bs=B at h ⊢;cases A with
 | none=>cases h
 | some a=>cases B with
  | none=>cases h
  | some o=>
   simp only at h ⊢;cases hx:(G a o).run with
   | none=>
    rw[hx]at h;simp at h
   | some x=>
    rw[hx]at h;rcases hG a o x hx with h1 | h1
    ·left;rw[h1];exact h
    ·right;rw[h1];exact h
theorem XZ {P:Program} {laid:Co} {N:Nat} {f:FuncId} {q q1 q2:Gk} (h1:CY P laid f (Ai laid N [true] (CX N q1))) (h2:CY P laid f (Ai laid N [true] (CX N q2)))
 (hs:∀s rest os x,(q s rest os).gt.run=some x->(q1 s rest os).gt.run=some x∨(q2 s rest os).gt.run=some x):CY P laid f (Ai laid N [true] (CX N q)):=by
 refine CY.or h1 h2 (dx fun a o x hx=>?_);unfold CX at hx ⊢;split at hx
 ·rename_i b rest s ro os;cases hb:Nat.beq b N
  ·simp only[hb,EB,GT.run]at hx;cases hx
  ·simp only[hb,C8]at hx ⊢;exact hs _ _ _ _ hx
 ·cases hx
theorem RJ {S:List (Aw)} {s n N:Nat} (hN:26 < N):∀v∈(GL 24 S).set s (Ao 26 n),eX N v:=by
 intro v hv;rcases yk hv with h | h
 ·unfold GL at h;obtain⟨p,_,rfl⟩:=List.mem_map.1 h;exact⟨24,1,some p.2,_,_,rfl,by omega⟩
 ·exact⟨26,0,some 0,n,_,h,hN⟩
theorem Q1 {K:List (As × Aw)} {N:Nat} (hN:25 < N):∀p∈Df 25 K,eX N p.2:=by
 intro p hp;unfold Df at hp;obtain⟨t,_,rfl⟩:=List.mem_map.1 hp;exact⟨25,1,some t.2,_,_,rfl,hN⟩
theorem fv {K:List (As × Aw)} {j n N:Nat} {k:As} (hN:27 < N):∀p∈(Df 25 K).set j (k,Ao 27 n),eX N p.2:=by
 intro p hp;rcases yk hp with h | h
 ·exact Q1 (by omega) p h
 ·rw[h];exact⟨27,0,some 0,n,_,rfl,hN⟩
theorem Dp {α:Type} {l:List α} {i:Nat} {v d:α} (h:i < l.length):(l.set i v).getD i d=v:=by
 rw[Kd,Q6,MB rfl,MB h];rfl
theorem KU {α:Type} {l:List α} {i:Nat} {v:α} (h:l[i]? = some v):l.set i v=l:=by
 obtain⟨q1,q2⟩:=List.getElem?_eq_some_iff.1 h;rw[<-q2,yp]
section
variable {x:Cm} {q:Int} {a:As} {d:Bool} {s:Nat} {o z:Int}
theorem Jc (h:s < x.AR.length):x.AR[s]? = some (C7 x s):=by
 unfold C7;rw[Kd,Jj h];rfl
theorem jN (hh:Ie x a=true):∃k,x.keys[Ey x a]? = some (k,Mz x a)/\(x.keys.getD (Ey x a) (a,[])).1=k:=by
 have hj:=ou hh;rw[DA]at hj;have hj:Ey x a < x.keys.length:=hj;unfold Mz;rw[hh,C8,Kd,Jj hj];exact⟨_,rfl,rfl⟩
theorem s8 (h:Lr x q a d s o z) (hh:Ie x a=true) {k:As} (hk:x.keys[Ey x a]? = some (k,Mz x a)):
 Lw x.AR.length x.keys.length (rowP x.AR s (C7 x s).length) ((Df 25 x.keys).set (Ey x a) (k,Ao 27 (Mz x a).length)) (C7 x s) (Mz x a) q a d s o z (Ey x a):=by
 have hjl:=(List.getElem?_eq_some_iff.1 hk).1;have hf:=Uc 25 x.keys hk (Ao 27 (Mz x a).length);refine⟨h.GQ,RJ (by decide),fv (by decide),h.hs,?_,?_,?_,h.hk,?_,?_,hjl,?_,h.SP,h.np⟩
 ·unfold rowP;rw[SB,DS]
 ·exact Dp (by rw[DS];exact h.hs)
 ·rw[SB,DA]
 ·rw[Q5 hf];rfl
 ·rw[eC hf];exact hh
 ·rw[Dp (by rw[DA];exact hjl)]
theorem gY (h:Lr x q a d s o z) (hh:Ie x a=false):Na x.AR.length x.keys.length (rowP x.AR s (C7 x s).length) (Df 25 x.keys) (C7 x s) q a d s o z (Ey x a):=by
 refine⟨h.GQ,RJ (by decide),Q1 (by decide),h.hs,?_,?_,?_,h.hk,rfl,hh,h.SP⟩
 ·unfold rowP;rw[SB,DS]
 ·exact Dp (by rw[DS];exact h.hs)
 ·rw[DA]
def Yl (C:Cm->As->Prop):Gk:=fun s rest os=>match s,rest,os with
 | .idx x,[.agg ⟨[.int .i64 q,.string a,.bool d,.int .i64 s,.int .i64 o,.int .i64 z]⟩],[]=> .ask ((s=(s.toNat:Int)/\Lr x q a d s.toNat o z)/\C x a) (.ret ⟨int (El x q a d s.toNat o z),.idx (JO x q a d s.toNat o z),[]⟩)
 | _,_,_=> .fail
theorem Re {C:Cm->As->Prop} {fs:List (FuncId × DO)} (hrun:∀(x:Cm) (q:Int) (a:As) (d:Bool) (s:Nat) (o z:Int),Lr x q a d s o z->C x a->Ak (Bp Tryz.prog AI fs) 26 (fun b=>20<=b/\b < 26) AE (fun v H=>v=int (El x q a d s o z)/\H.get 20=some (.abs (.pack (.idx (JO x q a d s o z))) false)) (st AE [At 20,G6 q a d s o z] (hp (Vi x)))) (hfs:CO Tryz.prog AI fs):
 CY Tryz.prog AI AE (Ai AI 20 [true] (CX 20 (Yl C))):=by
 refine aP hfs (by kernel_rfl) (by kernel_rfl) (n:=BD AE) (by kernel_rfl) (fun _=>rfl) fun s rest os=>?_
 unfold Yl;split
 ·rename_i x q a d s o z;rintro⟨⟨hs,hok⟩,hC⟩;refine⟨BE (by kernel_rfl),fun objs hr=>?_⟩;obtain⟨hl,hO⟩:=ai x objs hr;refine⟨_,26,hO,BE (by kernel_rfl),?_⟩;have h:=hrun x q a d s.toNat o z hok hC;unfold G6 at h;rw[<-hs]at h;refine Ak.sub (Ak.mono h ?_) fun b hb=>?_
  ·rintro v H ⟨e,g⟩;rw[e];exact ta g
  ·rw[hl];refine⟨b - 20,by omega,?_⟩;show b=if b - 20=0 then 20 else 20+(0+1)+(b - 20 - 1)
   split<;>omega
 ·exact trivial
end
section
variable {x:Cm} {q:Int} {a:As} {d:Bool} {s:Nat} {o z:Int}
theorem gK {ls:Aw} {o:Int}:J7 ls o<=ls.length:=(Jz _ _ _ _ (ay _)).2
theorem aj {lk:Aw} {q s:Int}:PH lk.length (E5 lk q s)<=lk.length:=(Jz _ _ _ _ (ay _)).2
theorem Z4 {l:Cq} {i:Nat} {p:EK.C EV} (h:l[i]? = some p):p.2∈Ag EV l:=by
 unfold Ag;exact List.mem_flatMap.2 ⟨p,cA h,by show p.2∈[Value.string p.1,p.2];simp⟩
theorem Kz {n b:Nat}:b∈Au 4 (Ao b n):=by
 show b∈[b];simp
theorem oN (h:Lr x q a d s o z) (hh:Ie x a=true):Ak kG 26 (fun b=>20<=b/\b < 26) AE (fun v H=>v=int (El x q a d s o z)/\H.get 20=some (.abs (.pack (.idx (JO x q a d s o z))) false)) (st AE [At 20,G6 q a d s o z] (hp (Vi x))):=by
 obtain⟨k,hk,hk1⟩:=jN hh;have hs:=h.hs;have hjl:Ey x a < x.keys.length:=(List.getElem?_eq_some_iff.1 hk).1;have hres:El x q a d s o z=ao (C7 x s) (Mz x a) q a d s o z:=rfl;have hrun:=uM (LS:=Ip x.AR s) (LK:=(DY x.keys).set (Ey x a) none) (s8 h hh hk);refine Ak.Ug (N2:=27) (D2:=fun b=>20<=b/\b < 27) (Ak.Ug (N2:=28) (D2:=fun b=>20<=b/\b < 28) (AX.iW hrun ?_) (fun base W0 μ W hD hH=>jJ hk hH fun z hz=>hD z hz) (BE (by kernel_rfl))) (fun base W0 μ W hD hH=>RS (Jc hs) hH fun z hz=>hD z hz) (BE (by kernel_rfl));intro v H base W0 W μ hQ hD hH;obtain⟨rfl,hq⟩:=hQ;have hset:∀(l3:Aw) (w3:Nat) (i:Nat) (p q:As × _),((Df 25 x.keys).set (Ey x a) (k,Ao w3 l3.length))[i]? = some p->(x.keys.set (Ey x a) (k,l3))[i]? = some q->p.1=q.1/\(i=Ey x a->p.2=Ao w3 l3.length)/\(i≠Ey x a->p.2= .slice (some ⟨25,1,some (id i)⟩) q.2.length cU/\((DY x.keys).set (Ey x a) none)[id i]? = some (some q.2)):=by
  intro l3 w3 i p qq h1 h2;rw[Q6]at h1 h2
  by_cases he:Ey x a=i
  ·subst he;rw[MB rfl,DA,MB hjl]at h1;rw[MB rfl,MB hjl]at h2;cases h1;cases h2
   exact⟨rfl,fun _=>rfl,fun c=>absurd rfl c⟩
  ·rw[JT he]at h1 h2;rw[JV,h2]at h1;cases h1
   refine⟨rfl,fun c=>absurd c.symm he,fun _=>⟨rfl,?_⟩⟩;show((DY x.keys).set (Ey x a) none)[i]? = _;rw[Q6,JT he];unfold DY;rw[Sy,h2];rfl
 rcases hq with⟨hne,hos⟩ | ⟨he,hos⟩
 ·have hos:[20,21,22,23,24,25,26,27].map H.get=(lM _ _ _ _ _ _ _ _).map some:=hos;unfold lM at hos;simp only[Sm,o6,Nh,iy]at hos;obtain⟨g20,g21,g22,g23,g24,g25,g26,g27⟩:=hos;have hsame:x.keys.set (Ey x a) (k,Mz x a)=x.keys:=KU hk;obtain⟨μ2,H2,r1,r2,r3⟩:=RM hH (y:=23) (w1:=26) (w3:=27) (s:=s) (j:=Ey x a) (S:=x.AR) (K:=x.keys) (k:=k) (l1:=C7 x s) (l3:=Mz x a) (fun z hz=>hD z (by simp at hz;omega)) (by decide) hs g26 g27 g20 g21 g22 g23 g24 g25 hk id (by rw[SB,DA]) (by have:=hset (Mz x a) 27;rw[hsame]at this;exact this) (fun i i' _ _ _ _ e=>e);refine⟨_,H2,⟨rfl,?_⟩,fun v' hv=>⟨μ2,r1,r2,hv.mono r1⟩⟩;rw[r3];have hb:(El x q a d s o z==0)=false:=oH.2 hne;unfold JO;rw[hb,EB,KU (Jc hs)]
 ·have hos:[20,21,22,23,24,25,32,35].map H.get=(lM _ _ _ _ _ _ _ _).map some:=hos;unfold lM at hos;simp only[Sm,o6,Nh,iy]at hos;obtain⟨g20,g21,g22,g23,g24,g25,g32,g35⟩:=hos;unfold rowP at g22;rw[AAb]at g22;rw[AAb,Dp (by rw[DA];exact hjl)]at g23;have hl1:=NP (gK (ls:=C7 x s) (o:=o)) (q,a,d,(s:Int),o,z);have hl3:=NP (aj (lk:=Mz x a) (q:=q) (s:=s)) (q,a,d,(s:Int),o,z);rw[<-hl1]at g22;rw[<-hl3]at g23;have k22:∃T,μ 32=some T:=JW.bN hH (rs:=[22]) (fun r hr=>by simp at hr;subst hr;exact hD 22 (by omega)) (.next (.here (by simp)) g22 (List.mem_flatMap.2 ⟨_,cA (i:=s) (by rw[D9,Q6,MB rfl,DS,MB hs]),Kz⟩))
  have k23:∃T,μ 35=some T:=JW.bN hH (rs:=[23]) (fun r hr=>by simp at hr;subst hr;exact hD 23 (by omega)) (.next (.here (by simp)) g23 (List.mem_flatMap.2 ⟨_,Z4 (i:=Ey x a) (by rw[Q6,MB rfl,DA,MB hjl]),Kz⟩))
  obtain⟨μ2,H2,r1,r2,r3⟩:=RM hH (y:=23) (w1:=32) (w3:=35) (s:=s) (j:=Ey x a) (S:=x.AR) (K:=x.keys.set (Ey x a) (k,HF (Mz x a) (PH (Mz x a).length (E5 (Mz x a) q s)) (q,a,d,(s:Int),o,z))) (k:=k) (fun z hz=>by
   simp only[Ul,bG,vK]at hz;rcases hz with rfl | rfl | rfl | rfl | rfl | rfl | rfl | rfl
   ·exact hD _ (by omega)
   ·exact hD _ (by omega)
   ·exact hD _ (by omega)
   ·exact hD _ (by omega)
   ·exact hD _ (by omega)
   ·exact hD _ (by omega)
   ·exact k22
   ·exact k23) (by decide) hs g32 g35 g20 (by rw[SB];exact g21) g22 g23 g24 g25 (by rw[Q6,MB rfl,MB hjl]) id (by rw[SB,SB,DA]) (hset _ _) (fun i i' _ _ _ _ e=>e)
  refine⟨_,H2,⟨rfl,?_⟩,fun v' hv=>⟨μ2,r1,r2,hv.mono r1⟩⟩;rw[r3];have hb:(El x q a d s o z==0)=true:=ABW.2 he;unfold JO Lq;rw[hb,hh,C8,C8,hk1]
theorem Zx {X:Ctx} (h:Lr x q a d s o z) (hh:Ie x a=false) (hrun:AX X 27 AE (Qe x.AR.length x.keys.length (rowP x.AR s (C7 x s).length) (Df 25 x.keys) (Ip x.AR s) (DY x.keys) (C7 x s) q a d s o z (Ey x a) (bif S4 (C7 x s) o z then 6 else 0)) (st AE [At 20,G6 q a d s o z] (hp (Rh x.AR.length x.keys.length (rowP x.AR s (C7 x s).length) (Df 25 x.keys) (Ip x.AR s) (DY x.keys) (C7 x s))))):
 Ak X 26 (fun b=>20<=b/\b < 26) AE (fun v H=>v=int (El x q a d s o z)/\H.get 20=some (.abs (.pack (.idx (JO x q a d s o z))) false)) (st AE [At 20,G6 q a d s o z] (hp (Vi x))):=by
 have hs:=h.hs;have hj:Ey x a<=x.keys.length:=by have:=U4 (Df 25 x.keys) a;rw[DA]at this;exact this
 have hL:Mz x a=[]:=by unfold Mz;rw[hh];rfl
 have hres:El x q a d s o z=bif S4 (C7 x s) o z then 6 else 0:=by
  unfold El;rw[hL];rfl
 refine Ak.Ug (N2:=27) (D2:=fun b=>20<=b/\b < 27) (AX.iW hrun ?_) (fun base W0 μ W hD hH=>RS (Jc hs) hH fun z hz=>hD z hz) (BE (by kernel_rfl));intro v H base W0 W μ hQ hD hH;obtain⟨rfl,hq⟩:=hQ;rw[<-hres]at hq;rcases hq with⟨hne,hos⟩ | ⟨he,hos⟩
 ·have hos:[20,21,22,23,24,25,26].map H.get=(Rh _ _ _ _ _ _ _).map some:=hos;unfold Rh at hos;simp only[Sm,o6,Nh,iy]at hos;obtain⟨g20,g21,g22,g23,g24,g25,g26⟩:=hos;obtain⟨μ2,H2,r1,r2,r3,-⟩:=U5 hH (x:=x) (s:=s) (w1:=26) (l1:=C7 x s) (fun z hz=>hD z (by simp at hz;omega)) hs g26 (hD 26 (by omega)) (by decide) g20 g21 g22 g23 g24 g25;refine⟨_,H2,⟨by rw[hres],?_⟩,fun v' hv=>⟨μ2,r1,r2,hv.mono r1⟩⟩;rw[r3];have hb:(El x q a d s o z==0)=false:=oH.2 hne;unfold JO;rw[hb,EB,KU (Jc hs)]
 ·simp only[Sm,o6,Nh,iy]at hos;obtain⟨g20,g21,g22,g24,g25,g31,g36,g34⟩:=hos;unfold rowP at g22;rw[AAb]at g22;have hl1:=NP (gK (ls:=C7 x s) (o:=o)) (q,a,d,(s:Int),o,z);rw[<-hl1]at g22;have k31:∃T,μ 31=some T:=JW.bN hH (rs:=[22]) (fun r hr=>by simp at hr;subst hr;exact hD 22 (by omega)) (.next (.here (by simp)) g22 (List.mem_flatMap.2 ⟨_,cA (i:=s) (by rw[D9,Q6,MB rfl,DS,MB hs]),Kz⟩))
  have k36:∃T,μ 36=some T:=JW.bN hH (rs:=[21]) (fun r hr=>by simp at hr;subst hr;exact hD 21 (by omega)) (.next (.here (by simp)) g21 (List.mem_flatMap.2 ⟨Ao 36 (x.keys.length+1),by simp,Kz⟩))
  have hjl:((Df 25 x.keys).take (Ey x a)).length=Ey x a:=by rw[Rg,DA];omega
  have hjl2:(x.keys.take (Ey x a)).length=Ey x a:=by rw[Rg];omega
  have hat:((Df 25 x.keys).take (Ey x a)++((a,Ao 34 1)::(Df 25 x.keys).drop (Ey x a)))[Ey x a]? = some (a,Ao 34 1):=by
   rw[lB (by rw[hjl];exact GO _),hjl,me];rfl
  have k34:∃T,μ 34=some T:=JW.bN hH (rs:=[36]) (fun r hr=>by simp at hr;subst hr;exact k36) (.next (.here (by simp)) g36 (List.mem_flatMap.2 ⟨_,Z4 (i:=Ey x a) hat,Kz⟩))
  have hlenK:(x.keys.take (Ey x a)++((a,[(q,a,d,(s:Int),o,z)])::x.keys.drop (Ey x a))).length=x.keys.length+1:=by
   rw[Pq,hjl2,bT,Tx];omega
  have Jl:∀(i:Nat) (p qq:As × _),((Df 25 x.keys).take (Ey x a)++((a,Ao 34 1)::(Df 25 x.keys).drop (Ey x a)))[i]? = some p->(x.keys.take (Ey x a)++((a,[(q,a,d,(s:Int),o,z)])::x.keys.drop (Ey x a)))[i]? = some qq->p.1=qq.1/\(i=Ey x a->p.2=Ao 34 [(q,a,d,(s:Int),o,z)].length)/\(i≠Ey x a->p.2= .slice (some ⟨25,1,some ((fun i=>if i < Ey x a then i else i - 1) i)⟩) qq.2.length cU/\(DY x.keys)[(fun i=>if i < Ey x a then i else i - 1) i]? = some (some qq.2)):=by
   intro i p qq h1 h2;rcases Nat.lt_trichotomy i (Ey x a)with hi | hi | hi
   ·rw[jY (by rw[hjl];exact hi),mM,MB hi,JV]at h1;rw[jY (by rw[hjl2];exact hi),mM,MB hi]at h2;rw[h2]at h1;cases h1
    refine⟨rfl,fun c=>absurd c (by omega),fun _=>⟨?_,?_⟩⟩
    ·simp only[MB hi]
    ·simp only[MB hi];unfold DY;rw[Sy,h2];rfl
   ·subst hi;rw[hat]at h1;rw[lB (by rw[hjl2];exact GO _),hjl2,me]at h2;cases h1;cases h2
    exact⟨rfl,fun _=>rfl,fun c=>absurd rfl c⟩
   ·obtain⟨t,rfl⟩:∃t,i=Ey x a+1+t:=⟨i - Ey x a - 1,by omega⟩
    rw[lB (by rw[hjl];omega),hjl,show Ey x a+1+t - Ey x a=t+1 from by omega,oA,mX,JV]at h1;rw[lB (by rw[hjl2];omega),hjl2,show Ey x a+1+t - Ey x a=t+1 from by omega,oA,mX]at h2;rw[h2]at h1;cases h1
    have hsig:(fun i=>if i < Ey x a then i else i - 1) (Ey x a+1+t)=Ey x a+t:=by
     show(if Ey x a+1+t < Ey x a then _ else Ey x a+1+t - 1)=_;rw[JT (by omega)];omega
    refine⟨rfl,fun c=>absurd c (by omega),fun _=>⟨?_,?_⟩⟩
    ·rw[hsig]
    ·rw[hsig];unfold DY;rw[Sy,h2];rfl
  obtain⟨μ2,H2,r1,r2,r3⟩:=RM hH (y:=36) (w1:=31) (w3:=34) (s:=s) (j:=Ey x a) (S:=x.AR) (K:=x.keys.take (Ey x a)++((a,[(q,a,d,(s:Int),o,z)])::x.keys.drop (Ey x a))) (k:=a) (l3:=[(q,a,d,(s:Int),o,z)]) (fun z hz=>by
   simp only[Ul,bG,vK]at hz;rcases hz with rfl | rfl | rfl | rfl | rfl | rfl | rfl | rfl
   ·exact hD _ (by omega)
   ·exact hD _ (by omega)
   ·exact hD _ (by omega)
   ·exact k36
   ·exact hD _ (by omega)
   ·exact hD _ (by omega)
   ·exact k31
   ·exact k34) (by decide) hs g31 g34 g20 (by rw[hlenK];exact g21) g22 g36 g24 g25 (by rw[lB (by rw[hjl2];exact GO _),hjl2,me];rfl) (fun i=>if i < Ey x a then i else i - 1) (by rw[hlenK,Pq,hjl,bT,Tx,DA];omega) Jl (fun i i' n1 n2 _ _ e=>by
   have e:(if i < Ey x a then i else i - 1)=(if i' < Ey x a then i' else i' - 1):=e;split at e<;>split at e<;>omega)
  refine⟨_,H2,⟨by rw[hres],?_⟩,fun v' hv=>⟨μ2,r1,r2,hv.mono r1⟩⟩;rw[r3];have hb:(El x q a d s o z==0)=true:=ABW.2 he;unfold JO Lq;rw[hb,hh,C8,EB]
end
def s7:AL->BN->GT:=CX 20 (Yl fun _ _=>True)
theorem og:CY Tryz.prog AI AE (Ai AI 20 [true] s7):=by
 have h1:=Re (C:=fun x a=>Ie x a=true) (fs:=Cv (eT 0 true)) (fun x q a d s o z h hh=>oN h hh) (q8 0 true).all;have h2:=Re (C:=fun x a=>Ie x a=false/\Ey x a < x.keys.length) (fs:=Cv (SR 0)) (fun x q a d s o z h hh=>Zx h hh.1 (oU (gY h hh.1) hh.2)) (qF 0).all;have h3:=Re (C:=fun x a=>Ie x a=false/\Ey x a=x.keys.length) (fs:=Cv (SE 0)) (fun x q a d s o z h hh=>Zx h hh.1 (l4 (gY h hh.1) hh.2)) (gU 0).all;have h23:CY Tryz.prog AI AE (Ai AI 20 [true] (CX 20 (Yl fun x a=>Ie x a=false))):=by
  refine XZ h2 h3 fun s rest os y hy=>?_
  unfold Yl at hy ⊢;split at hy
  ·rename_i x q a d s o z;simp only[PT.gt,GT.run]at hy ⊢;split at hy
   ·rename_i hc;have hj:Ey x a<=x.keys.length:=by have:=U4 (Df 25 x.keys) a;rw[DA]at this;exact this
    rcases U1 (Ey x a) x.keys.length with hl | hl
    ·left;rw[MB ⟨hc.1,hc.2,hl⟩];exact hy
    ·right;rw[MB ⟨hc.1,hc.2,Nat.le_antisymm hj hl⟩];exact hy
   ·cases hy
  ·simp only[PT.gt,GT.run]at hy;cases hy
 refine XZ h1 h23 fun s rest os y hy=>?_
 unfold Yl at hy ⊢;split at hy
 ·rename_i x q a d s o z;simp only[PT.gt,GT.run]at hy ⊢;split at hy
  ·rename_i hc;cases hh:Ie x a
   ·right;rw[MB ⟨hc.1,rfl⟩];exact hy
   ·left;rw[MB ⟨hc.1,rfl⟩];exact hy
  ·cases hy
 ·simp only[PT.gt,GT.run]at hy;cases hy
def u6:List GA:=[]
theorem dX:Ci u6:= .nil
abbrev xI:Ctx:=Bp Tryz.prog AI (Cv u6)
section
variable {base:Env} {W0 W:World} {μ:Ae} {H:AA}
theorem AJ.qa (h:AJ base W0 μ H W) {g:Nat} {T:Bc} (k:EK) (n:Nat) (hk:k.length≠0) (hm:μ g=some T):
 AJ base W0 (μ.ext H.next ⟨T.c,0,0,CH (List.replicate n ⟨T.c,0,0,k.length⟩)⟩) (H.alloc (.abs (.mem k (List.replicate n (some []))) false)) W:=by
 obtain⟨φ,q⟩:=h.abs;have hb:=h.bound g T hm;generalize hT2:(⟨T.c,0,0,CH (List.replicate n ⟨T.c,0,0,k.length⟩)⟩:Bc)=T2;have hTc:T2.c=T.c:=by rw[<-hT2]
 have hTe:T2.e=CH (List.replicate n ⟨T.c,0,0,k.length⟩):=by rw[<-hT2]
 have hle:μ.le (μ.ext H.next T2):=Ae.Cc T2 (h.fresh _ (GO _)).2;have get:∀x,(H.alloc (.abs (.mem k (List.replicate n (some []))) false)).get x=if x=H.next then some (.abs (.mem k (List.replicate n (some []))) false)else H.get x:=fun x=>AA.AM ..
 have key:∀b o' T3,(H.alloc (.abs (.mem k (List.replicate n (some []))) false)).get b=some o'->(μ.ext H.next T2) b=some T3->(b=H.next/\o'= .abs (.mem k (List.replicate n (some []))) false/\T3=T2)∨(b≠H.next/\H.get b=some o'/\μ b=some T3):=by
  intro b o' T3 hb hT;rw[get]at hb
  by_cases e:b=H.next
  ·rw[MB e]at hb;cases hb
   subst e;rw[Ae.Af]at hT;cases hT
   exact .inl ⟨rfl,rfl,rfl⟩
  ·rw[JT e]at hb;rw[Ae.BI _ _ e]at hT;exact .inr ⟨e,hb,hT⟩
 let φ':Nat->Nat->Prop:=fun b x=>if b=H.next then False else φ b x
 have φn:∀x,φ' H.next x ↔ False:=fun x=>by show(if H.next=H.next then _ else _) ↔ _;rw[MB rfl]
 have φo:∀b,b≠H.next->φ' b=φ b:=fun b hb=>by funext x;show(if b=H.next then _ else _)=_;rw[JT hb]
 have hvd:(AP.vec k [] false).void ⟨T.c,0,0,k.length⟩:=⟨rfl,rfl,hk⟩;have one:∀(j:Nat) (M:Bc),(List.replicate n (⟨T.c,0,0,k.length⟩:Bc))[j]? = some M->M=⟨T.c,0,0,k.length⟩:=fun j M h1=>by
  rw[xa]at h1;split at h1
  ·cases h1;rfl
  ·cases h1
 have hnil:∀(j:Nat) (l:List (EK.C k)),(List.replicate n (some []):List (Option (List (EK.C k))))[j]? = some (some l)->l=[]:=fun j l h1=>by
  rw[xa]at h1;split at h1
  ·cases h1;rfl
  ·cases h1
 refine⟨?_,?_,?_,?_,?_,h.size,h.below,h.out,h.os,⟨φ',?_,?_⟩,Ae.le_trans h.le hle,h.grow⟩
 ·intro b o' hb' T3 hT;rcases key b o' T3 hb' hT with⟨rfl,rfl,rfl⟩ | ⟨_,hb',hT⟩
  ·exact⟨W.heap[T.c],by rw[hTc];exact dm hb,.abs _ _ _ _⟩
  ·obtain⟨p,hp,hp2⟩:=h.obj b o' hb' T3 hT;exact⟨p,hp,hp2.mono hle⟩
 ·intro b o' hb' hr T3 hT hv3;rcases key b o' T3 hb' hT with⟨rfl,rfl,rfl⟩ | ⟨_,hb',hT⟩
  ·exact absurd trivial hv3
  ·exact h.own b o' hb' hr T3 hT hv3
 ·intro b1 b2 o3 o4 h1 h2 T3 T4 m1 m2 v1 v2 hcc hrr;rcases key b1 o3 T3 h1 m1 with⟨rfl,rfl,rfl⟩ | ⟨n1,g1,k1⟩<;>rcases key b2 o4 T4 h2 m2 with⟨rfl,rfl,rfl⟩ | ⟨n3,g2,k2⟩
  ·rfl
  ·exact absurd trivial v1
  ·exact absurd trivial v2
  ·exact h.inj _ _ o3 o4 g1 g2 T3 T4 k1 k2 v1 v2 hcc hrr
 ·intro b hb';have hb':H.next+1<=b:=hb';refine⟨?_,by rw[Ae.BI _ _ (by omega)];exact(h.fresh b (by omega)).2⟩;rw[get,JT (by omega)];exact(h.fresh b (by omega)).1
 ·intro b T3 hT
  by_cases e:b=H.next
  ·subst e;rw[Ae.Af]at hT;cases hT
   rw[hTc];exact hb
  ·rw[Ae.BI _ _ e]at hT;exact h.bound b T3 hT
 ·intro b c ro T3 hb' hT;rcases key b _ T3 hb' hT with⟨rfl,e,rfl⟩ | ⟨n1,hb',hT⟩
  ·cases e
   refine⟨⟨_,hTe,by rw[YC,YC],by rw[hTc];exact hb,fun j M l h1 h2=>?_,fun i j M N l m h1 h2 h3 h4 h5 _ _=>by
    have e1:=one i M h1;have e2:=hnil _ l h3;subst e1;subst e2
    exact absurd hvd h5,fun x=>⟨fun hx=>((φn x).1 hx).elim,?_⟩⟩,fun _ i hi=>((φn i).1 hi).elim⟩
   ·have e1:=one j M h1;subst e1;have:=hnil _ l h2;subst this
    exact⟨W.heap[T.c],dm hb,.Du _ _ _ _ rfl rfl hk⟩
   ·rintro⟨j,M,l,h1,h2,h3,_⟩;have e1:=one j M h1;subst e1;have:=hnil _ l h2;subst this
    exact absurd hvd h3
  ·obtain⟨r1,r2⟩:=q.rep b c ro T3 hb' hT;rw[φo b n1];exact⟨r1.mono hle,r2⟩
 ·intro b c ro T3 hb' hT b2 o2 T4 hb2 hT4 hne;rcases key b _ T3 hb' hT with⟨rfl,e,rfl⟩ | ⟨n1,g1,k1⟩
  ·exact⟨fun _ hh=>(φn _).1 hh,fun _ i hi=>((φn i).1 hi).elim⟩
  ·rw[φo b n1];rcases key b2 o2 T4 hb2 hT4 with⟨rfl,rfl,rfl⟩ | ⟨n3,g2,k2⟩
   ·exact⟨fun hv2=>absurd trivial hv2,fun _ i _ hi2=>(φn i).1 hi2⟩
   ·rw[φo b2 n3];exact q.DG b c ro T3 g1 k1 b2 o2 T4 g2 k2 hne
end
def yg (n:Nat) (Q:Bm):Prop:=Q (.tuple ⟨[At 22,int 0]⟩) [some (.cells (List.replicate n (.slice none 0 0)) 1 false),some (.cells [.bool true,.slice none 0 0] 0 false),some (.cells [At 21,.slice (some ⟨20,0,none⟩) n n] 0 false),some (.cells [At 21,.slice (some ⟨20,0,none⟩) n n] 0 false)]
theorem qu (Q:Bm):∀(n:Nat),1<=n->n<=32->CU xI (Ax u6) [] E0 [20,21,22] 20 Q 300 (st E0 [int (n:Nat)] (hp []))=((int (n:Nat)=int (n:Nat))/\yg n Q)
 | 0,h,_=>absurd h (by decide)
 | 1,_,_=>by kernel_rfl
 | 2,_,_=>by kernel_rfl
 | 3,_,_=>by kernel_rfl
 | 4,_,_=>by kernel_rfl
 | 5,_,_=>by kernel_rfl
 | 6,_,_=>by kernel_rfl
 | 7,_,_=>by kernel_rfl
 | 8,_,_=>by kernel_rfl
 | 9,_,_=>by kernel_rfl
 | 10,_,_=>by kernel_rfl
 | 11,_,_=>by kernel_rfl
 | 12,_,_=>by kernel_rfl
 | 13,_,_=>by kernel_rfl
 | 14,_,_=>by kernel_rfl
 | 15,_,_=>by kernel_rfl
 | 16,_,_=>by kernel_rfl
 | 17,_,_=>by kernel_rfl
 | 18,_,_=>by kernel_rfl
 | 19,_,_=>by kernel_rfl
 | 20,_,_=>by kernel_rfl
 | 21,_,_=>by kernel_rfl
 | 22,_,_=>by kernel_rfl
 | 23,_,_=>by kernel_rfl
 | 24,_,_=>by kernel_rfl
 | 25,_,_=>by kernel_rfl
 | 26,_,_=>by kernel_rfl
 | 27,_,_=>by kernel_rfl
 | 28,_,_=>by kernel_rfl
 | 29,_,_=>by kernel_rfl
 | 30,_,_=>by kernel_rfl
 | 31,_,_=>by kernel_rfl
 | 32,_,_=>by kernel_rfl
 | n+33,_,h=>absurd h (by omega)
theorem ri (Q:Bm) (n:Nat) (h1:1<=n) (h2:n<=32) (h:yg n Q):CU xI (Ax u6) [] E0 [20,21,22] 20 Q 300 (st E0 [int (n:Nat)] (hp [])):=by
 rw[qu Q n h1 h2];exact⟨rfl,h⟩
end Go.AD
