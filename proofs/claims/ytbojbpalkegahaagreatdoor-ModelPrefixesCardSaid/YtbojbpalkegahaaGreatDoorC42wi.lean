/-
  Part of the proof: the machine that runs a program by fixed orders, and that each of its runs is a run of the model; or a run of it in parts. No conditions.
-/
import Derived.Test.YtbojbpalkegahaaGreatDoorIdRow
import Derived.Test.YtbojbpalkegahaaGreatDoorC42e
import Derived.Test.YtbojbpalkegahaaGreatDoorC42ua
import Derived.Test.YtbojbpalkegahaaGreatDoorAbr
import Derived.Test.YtbojbpalkegahaaGreatDoorWrkD
noncomputable section
set_option maxRecDepth 1000000
namespace Go.AI
def MW (P:Program) (x:String × DataW Unit):Option (Nat × List Value):=
 match x.2 with
 | .iface _ _=>(P.globalNamed x.1).map fun g=>(g,[Bn])
 | _=>match W4 P x with
  | some p=>bif p.2.all flat then some p else none
  | none=>none
theorem SZ {P:Program} {w:World} {sp:Nat->Bool} {fuel:Nat} {t:TypeId} {cs:List Value} {nm:String} {d:DataW Unit} {ps:List MemPlace} (h:DataW.trod (fun _=>()) P w 0 sp false fuel t cs=some (.iface nm d,ps)):∃te pe,cs=[.iface te pe]:=by
 cases fuel with
 | zero=>cases h
 | succ fuel=>
  unfold DataW.trod at h;split at h
  all_goals first
   | (exact⟨_,_,rfl⟩)
   | (cases h;done)
   | (exfalso;simp[Option.bind_eq_some_iff]at h;done)
   | (exfalso;split at h<;>simp[Option.bind_eq_some_iff]at h;done)
   | (exfalso;split at h<;>(try split at h)<;>(try simp[Option.map_eq_some_iff,Option.bind_eq_some_iff]at h);done)
theorem RY {P:Program} {w:World}:∀(laid:List (String × DataW Unit)) (ps:List MemPlace),DataW.LaidVars P w laid ps->∀(n:Nat) (x:String × DataW Unit) (p:Nat × List Value),laid[n]? = some x->MW P x=some p->∃a t fz,w.heap[p.1]? = some (.cells a t fz)/\Ox p.2 a.toList:=by
 intro laid;induction laid with
 | nil=>intro ps _ n x p hx;simp at hx
 | cons y laid ih=>
  intro ps hl n x p hx h0;obtain⟨nm,d⟩:=y;obtain⟨g,t,cs,fuel,p1,q1,h1,h2,h3,h4,h5,_⟩:=hl;cases n with
  | zero=>
   simp only[List.getElem?_cons_zero,Option.some.injEq]at hx;subst hx;simp only[World.var?,h1,Option.bind_some]at h3;split at h3
   ·rename_i cs' t' fz hh;cases h3
    unfold MW at h0;simp only at h0;split at h0
    ·rename_i nm2 d2;rw[h1]at h0;cases h0
     obtain⟨te,pe,e⟩:=SZ h4;exact⟨_,_,_,hh,by rw[e];exact .iface te pe⟩
    ·split at h0
     ·rename_i p0 Ha;cases hf:p0.2.all flat
      ·rw[hf]at h0;cases h0
      ·rw[hf]at h0;cases h0
       simp only[W4,h1,Option.bind_some,h2,Option.map_eq_some_iff]at Ha;obtain⟨l,hl,rfl⟩:=Ha;exact⟨_,_,_,hh,by rw[Zs 12 fuel t _ d p1 l h4 hl];exact .plain _ hf⟩
     ·cases h0
   ·cases h3
  | succ n=>exact ih q1 h5 n x p (by simpa using hx) h0
theorem Ze {X:Ctx} {laid:List (String × DataW Unit)} {W:World} (hL:laidMetH X.P laid W) (hp:(laid.all fun x=>x.2.handleName?.isNone)=true) (ns:List Nat) (hm:(ns.map fun n=>(laid[n]?).bind (MW X.P))=X.laid.map some) (hnd:(X.laid.map Prod.fst).Nodup):Ds X (K2 W) W:=by
 rw[MakeChecks.laidMetH_plain _ _ _ hp]at hL;obtain⟨ps,h1,_⟩:=hL;refine⟨hnd,fun p hp=>?_⟩;have hmem:some p∈ns.map fun n=>(laid[n]?).bind (MW X.P):=by rw[hm];exact List.mem_map_of_mem hp
 obtain⟨n,_,hn⟩:=List.mem_map.1 hmem;rw[Option.bind_eq_some_iff]at hn;obtain⟨x,hx,hxp⟩:=hn;obtain⟨a,t,fz,h2,h3⟩:=RY laid ps h1 n x p hx hxp;refine⟨?_,a,t,fz,h2,h3⟩;exact(Array.getElem?_eq_some_iff.1 h2).1
end Go.AI
namespace Go.AI
open Go.ChangeShapes
def Rk (P:Program):Nat->TypeId->Option (List (Nat × SK))
 | 0,_=>none
 | f+1,t=>match P.underlying t with
  | some (.int k)=>some [(0,.int k)]
  | some .bool=>some [(0,.bool)]
  | some .string=>some [(0,.str)]
  | some (.struct fields)=>(fields.toList.mapM fun fd=>(Rk P f fd.type).map fun l=>l.map fun p=>(fd.offset+p.1,p.2)).map List.flatten
  | some (.array n e)=>((List.range n).mapM fun i=>(Rk P f e).map fun l=>l.map fun p=>(i * P.cellsOf e+p.1,p.2)).map List.flatten
  | _=>none
def SK.K6:(s:SK)->s.C->Prop
 | .int k,n=>(Lit.int k n).wf=true
 | .str,s=>s.size<=maxLen
 | _,_=>True
def EK.K6:(k:EK)->EK.C k->Prop
 | [],_=>True
 | [s],x=>s.K6 x
 | s::t::r,x=>s.K6 x.1/\EK.K6 (t::r) x.2
section
variable {P:Program} {w:World} {H:Type} {enc:TypeId × Value->H}
theorem mapM_mem {α β:Type} {f:α->Option β}:∀{l:List α} {m:List β},l.mapM f=some m->∀x∈l,∃y,f x=some y
 | [],_,_,x,hx=>by cases hx
 | a::l,m,h,x,hx=>by
  rw[List.mapM_cons]at h;cases ha:f a with
  | none=>rw[ha]at h;simp at h
  | some y=>
   rw[ha]at h;simp only[Option.pure_def,Option.bind_eq_bind,Option.bind_some]at h;cases hl:l.mapM f with
   | none=>rw[hl]at h;simp at h
   | some m'=>
    rcases List.mem_cons.1 hx with rfl | hx
    ·exact⟨y,ha⟩
    ·exact mapM_mem hl x hx
theorem mapM_flat {α β:Type} {f:α->Option (List β)}:∀{l:List α} {m:List (List β)},l.mapM f=some m->∀y∈m.flatten,∃x∈l,∃z,f x=some z/\y∈z
 | [],m,h,y,hy=>by
  simp at h;subst h;simp at hy
 | a::l,m,h,y,hy=>by
  rw[List.mapM_cons]at h;cases ha:f a with
  | none=>rw[ha]at h;simp at h
  | some z=>
   rw[ha]at h;simp only[Option.pure_def,Option.bind_eq_bind,Option.bind_some]at h;cases hl:l.mapM f with
   | none=>rw[hl]at h;simp at h
   | some m'=>
    rw[hl]at h;simp only[Option.bind_some,Option.some.injEq]at h;subst h;rw[List.flatten_cons,List.mem_append]at hy;rcases hy with hy | hy
    ·exact⟨a,by simp,z,ha,hy⟩
    ·obtain⟨x,h1,z2,h2,h3⟩:=mapM_flat hl y hy;exact⟨x,by simp[h1],z2,h2,h3⟩
theorem Jo {α:Type} {l:List α} {o n i:Nat} {x:α} (h:((l.drop o).take n)[i]? = some x):l[o+i]? = some x:=by
 rw[List.getElem?_take]at h;split at h
 ·rwa [List.getElem?_drop]at h
 ·cases h
theorem Nl {α β:Type} {f:α->Option β}:∀{l:List α} {m:List β},l.mapM f=some m->m.length=l.length
 | [],m,h=>by simp at h;subst h;rfl
 | a::l,m,h=>by
  rw[List.mapM_cons]at h;cases ha:f a with
  | none=>rw[ha]at h;simp at h
  | some y=>
   rw[ha]at h;simp only[Option.pure_def,Option.bind_eq_bind,Option.bind_some]at h;cases hl:l.mapM f with
   | none=>rw[hl]at h;simp at h
   | some m'=>
    rw[hl]at h;simp only[Option.bind_some,Option.some.injEq]at h;subst h;simp[Nl hl]
theorem Vm {base:Nat} {sp:Nat->Bool} {held:Bool}:∀(f:Nat) (t:TypeId) (K:List (Nat × SK)),Rk P f t=some K->∀(fuel:Nat) (cs:List Value) (d:DataW H) (ps:List MemPlace),DataW.trod enc P w base sp held fuel t cs=some (d,ps)->
 ∀p∈K,∃x:p.2.C,cs[p.1]? = some (p.2.enc x)/\p.2.K6 x:=by
 intro f;induction f with
 | zero=>intro t K h;cases h
 | succ f ih=>
  intro t K hK fuel cs d ps h p hp;cases fuel with
  | zero=>cases h
  | succ fuel=>
   unfold Rk at hK;unfold DataW.trod at h;cases hu:P.underlying t with
   | none=>rw[hu]at hK;cases hK
   | some D=>
    rw[hu]at hK h;cases D with
    | int k=>
     simp only[Option.some.injEq]at hK;subst hK;simp only[List.mem_singleton]at hp;subst hp;simp only at h;split at h
     all_goals first
      | (split at h;· rename_i hc;obtain⟨rfl,hc2⟩:=hc;simp_all only[TypeDesc.int.injEq,Option.some.injEq];exact⟨_,rfl,hc2⟩;· cases h)
      | (simp_all;done)
      | (simp_all;subst_vars;exact⟨_,rfl,h.1.2⟩)
    | bool=>
     simp only[Option.some.injEq]at hK;subst hK;simp only[List.mem_singleton]at hp;subst hp;simp only at h;split at h
     all_goals first
      | (simp_all;done)
      | exact⟨_,rfl,trivial⟩
    | string=>
     simp only[Option.some.injEq]at hK;subst hK;simp only[List.mem_singleton]at hp;subst hp;simp only at h;split at h
     all_goals first
      | (split at h;· rename_i hc;exact⟨_,rfl,hc⟩;· cases h)
      | (simp_all;done)
      | (simp_all;exact⟨_,rfl,h.1⟩)
    | struct fs=>
     simp only[Option.map_eq_some_iff]at hK;obtain⟨m,hm,rfl⟩:=hK;obtain⟨fd,hfd,z,hz,hpz⟩:=mapM_flat hm p hp;simp only[Option.map_eq_some_iff]at hz;obtain⟨l,hl,rfl⟩:=hz;obtain⟨q,hq,rfl⟩:=List.mem_map.1 hpz;have key:∃xs,(fs.toList.mapM fun f=>DataW.trod enc P w base sp held fuel f.type ((cs.drop f.offset).take (P.cellsOf f.type)))=some xs:=by
      simp only at h
      by_cases hc:cs.length=P.cellsOf t
      ·rw[if_pos hc,Option.map_eq_some_iff]at h;obtain⟨xs,hxs,_⟩:=h;exact⟨xs,hxs⟩
      ·rw[if_neg hc]at h;cases h
     obtain⟨xs,hxs⟩:=key;obtain⟨⟨d2,ps2⟩,hy⟩:=mapM_mem hxs fd hfd;obtain⟨x,h1,h2⟩:=ih fd.type l hl fuel _ d2 ps2 hy q hq;exact⟨x,Jo h1,h2⟩
    | array n e=>
     simp only[Option.map_eq_some_iff]at hK;obtain⟨m,hm,rfl⟩:=hK;obtain⟨i,hi,z,hz,hpz⟩:=mapM_flat hm p hp;simp only[Option.map_eq_some_iff]at hz;obtain⟨l,hl,rfl⟩:=hz;obtain⟨q,hq,rfl⟩:=List.mem_map.1 hpz;have key:∃xs,((List.range n).mapM fun i=>DataW.trod enc P w base sp held fuel e ((cs.drop (i * P.cellsOf e)).take (P.cellsOf e)))=some xs:=by
      simp only at h
      by_cases hc:cs.length=P.cellsOf t
      ·rw[if_pos hc,Option.map_eq_some_iff]at h;obtain⟨xs,hxs,_⟩:=h;exact⟨xs,hxs⟩
      ·rw[if_neg hc]at h;cases h
     obtain⟨xs,hxs⟩:=key;obtain⟨⟨d2,ps2⟩,hy⟩:=mapM_mem hxs i hi;obtain⟨x,h1,h2⟩:=ih e l hl fuel _ d2 ps2 hy q hq;exact⟨x,Jo h1,h2⟩
    | _=>cases hK
theorem Ls:∀(k:EK) (o:Nat) (cs:List Value),cs.length=o+k.length->(∀i s,k[i]? = some s->∃x:s.C,cs[o+i]? = some (s.enc x)/\s.K6 x)->∃x:EK.C k,cs.drop o=EK.enc k x/\EK.K6 k x
 | [],o,cs,hl,_=>⟨(),by rw[List.drop_of_length_le (by simp at hl;omega)];rfl,trivial⟩
 | [s],o,cs,hl,h=>by
  obtain⟨x,h1,h2⟩:=h 0 s rfl;refine⟨x,?_,h2⟩;have hlt:o < cs.length:=by simp at hl;omega
  rw[List.drop_eq_getElem_cons hlt,List.drop_of_length_le (by simp at hl;omega)];rw[Nat.add_zero,List.getElem?_eq_getElem hlt]at h1;have h1:=Option.some.inj h1;rw[h1];rfl
 | s::t::r,o,cs,hl,h=>by
  obtain⟨x,h1,h2⟩:=h 0 s rfl;have hlt:o < cs.length:=by simp at hl;omega
  obtain⟨y,h3,h4⟩:=Ls (t::r) (o+1) cs (by simp at hl ⊢;omega) (fun i s' hi=>by
   obtain⟨z,e1,e2⟩:=h (i+1) s' (by simpa using hi);exact⟨z,by rw[show o+1+i=o+(i+1)from by omega];exact e1,e2⟩)
  refine⟨(x,y),?_,h2,h4⟩;rw[List.drop_eq_getElem_cons hlt,h3];rw[Nat.add_zero,List.getElem?_eq_getElem hlt]at h1;have h1:=Option.some.inj h1;rw[h1];rfl
def KY (P:Program) (t:TypeId) (k:EK):Bool:=
 Nat.beq (P.cellsOf t) k.length&& !(Nat.beq k.length 0)&&(match Rk P 8 t with | some K=>decide (K.map Prod.fst=List.range k.length)&&decide (K.map Prod.snd=k) | none=>false)
theorem Va {base:Nat} {sp:Nat->Bool} {held:Bool} {t:TypeId} {k:EK} (hk:KY P t k=true) {fuel:Nat} {cs:List Value} {d:DataW H} {ps:List MemPlace} (hl:cs.length=P.cellsOf t)
 (h:DataW.trod enc P w base sp held fuel t cs=some (d,ps)):∃x:EK.C k,cs=EK.enc k x/\EK.K6 k x:=by
 unfold KY at hk;simp only[Bool.and_eq_true]at hk;obtain⟨⟨h1,_⟩,h2⟩:=hk;have h1:=Nat.eq_of_beq_eq_true h1;split at h2
 ·rename_i K hK;simp only[Bool.and_eq_true,decide_eq_true_eq]at h2;obtain⟨h2,h3⟩:=h2;obtain⟨x,e1,e2⟩:=Ls k 0 cs (by rw[hl,h1,Nat.zero_add]) (fun i s hi=>by
   have hi1:(K.map Prod.snd)[i]? = some s:=by rw[h3];exact hi
   rw[List.getElem?_map,Option.map_eq_some_iff]at hi1;obtain⟨p,hp,rfl⟩:=hi1;have hi2:(K.map Prod.fst)[i]? = some p.1:=by rw[List.getElem?_map,hp];rfl
   rw[h2]at hi2;have hlt:i < k.length:=by
    rcases Nat.lt_or_ge i k.length with q | q
    ·exact q
    ·rw[List.getElem?_eq_none q]at hi;cases hi
   rw[List.getElem?_range hlt]at hi2;have hi2:=Option.some.inj hi2;obtain⟨x,e1,e2⟩:=Vm 8 t K hK fuel cs d ps h p (List.mem_of_getElem? hp);exact⟨x,by rw[Nat.zero_add,hi2];exact e1,e2⟩)
  exact⟨x,by rw[<-e1,List.drop_zero],e2⟩
 ·cases h2
theorem Ob {α:Type} {Q:Nat->α->Prop}:∀(n:Nat),(∀i,i < n->∃x,Q i x)->∃l:List α,l.length=n/\∀i x,l[i]? = some x->Q i x
 | 0,_=>⟨[],rfl,fun i x h=>by cases h⟩
 | n+1,h=>by
  obtain⟨l,h1,h2⟩:=Ob n (fun i hi=>h i (by omega));obtain⟨x,hx⟩:=h n (by omega);refine⟨l++[x],by simp[h1],fun i y hi=>?_⟩;rw[List.getElem?_append]at hi;split at hi
  ·exact h2 i y hi
  ·rename_i hlt;have:i - l.length=0:=by
    rcases Nat.eq_zero_or_pos (i - l.length)with q | q
    ·exact q
    ·rw[List.getElem?_eq_none (by simp;omega)]at hi;cases hi
   rw[this]at hi;have hi:x=y:=by simpa using hi
   subst hi;have:i=n:=by omega
   rw[this];exact hx
theorem trod_slice {t e:TypeId} {k:EK} (hu:P.underlying t=some (.slice e)) (hk:KY P e k=true) {held:Bool} {fuel:Nat} {v:Value} {d:DataW H} {ps:List MemPlace}
 (h:DataW.trod enc P w 0 (fun _=>true) held fuel t [v]=some (d,ps)):
 v= .slice none 0 0∨∃a len cap,v= .slice (some a) len cap/\len<=cap/\cap<=maxLen/\∃l:List (EK.C k),l.length=cap/\∀i x,l[i]? = some x->(w.cells? 0 (a.add (i * k.length)) k.length=some (EK.enc k x)/\EK.K6 k x):=by
 cases fuel with
 | zero=>cases h
 | succ fuel=>
  have hcl:P.cellsOf e=k.length:=by
   unfold KY at hk;simp only[Bool.and_eq_true]at hk;exact Nat.eq_of_beq_eq_true hk.1.1
  unfold DataW.trod at h;rw[hu]at h;simp only at h;split at h
  all_goals try (simp_all;done)
  ·rename_i _ e2 a len cap he hcs;have he:e=e2:=by simpa using he
   subst he;right
   have hv:v= .slice (some a) len cap:=by
    simpa using hcs
   subst hv;split at h
   ·rename_i hc;obtain⟨_,hc1,hc2⟩:=hc;refine⟨a,len,cap,rfl,hc1,hc2,?_⟩;rw[Option.bind_eq_some_iff]at h;obtain⟨elems,he1,h⟩:=h;simp only[if_true,Option.map_eq_some_iff]at h;obtain⟨rest,he2,_⟩:=h;refine Ob cap fun i hi=>?_
    have hel:∃y,((w.cells? 0 (a.add (i * P.cellsOf e)) (P.cellsOf e)).bind (DataW.trod enc P w 0 (fun _=>true) held fuel e))=some y:=by
     rcases Nat.lt_or_ge i len with q | q
     ·exact mapM_mem he1 i (by simpa using q)
     ·obtain⟨y,hy⟩:=mapM_mem he2 (i - len) (by simp;omega);exact⟨y,by rw[show len+(i - len)=i from by omega]at hy;exact hy⟩
    obtain⟨⟨d2,ps2⟩,hy⟩:=hel;rw[Option.bind_eq_some_iff]at hy;obtain⟨cs,hcs,hy⟩:=hy;have hlen:cs.length=P.cellsOf e:=by
     unfold World.cells? at hcs;rw[if_pos (Nat.zero_le _)]at hcs;exact(Nl hcs).trans (by simp)
    obtain⟨x,e1,e2⟩:=Va hk hlen hy;rw[hcl]at hcs;exact⟨x,by rw[hcs,e1],e2⟩
   ·cases h
end
end Go.AI
namespace Go.AI
section
variable {base:Env} {W0:World} {μ:Ai} {H:AA} {W:World}
theorem AT.U1 (h:AT base W0 μ H W) (hall:∀b p,H.get b=some p->p.ro=true/\p.isAbs=false) {T:B7} {o:AK} {o':Obj} (hro:o.ro=true) (hna:o.isAbs=false) (hT:W.heap[T.c]? = some o') (ho:Cs μ T o o'):
 AT base W0 (μ.ext H.next T) (H.alloc o) W:=by
 have hle:μ.le (μ.ext H.next T):=Ai.DU T (h.fresh _ (Nat.le_refl _)).2;have hlt:T.c < W.heap.size:=by
  rcases Nat.lt_or_ge T.c W.heap.size with q | q
  ·exact q
  ·rw[Array.getElem?_eq_none q]at hT;cases hT
 have key:∀b p,(H.alloc o).get b=some p->(b=H.next/\p=o)∨(b≠H.next/\H.get b=some p):=by
  intro b p e;rw[AA.AW]at e
  by_cases q:b=H.next
  ·rw[if_pos q]at e;cases e;exact .inl ⟨q,rfl⟩
  ·rw[if_neg q]at e;exact .inr ⟨q,e⟩
 have kro:∀b p,(H.alloc o).get b=some p->p.ro=true/\p.isAbs=false:=by
  intro b p e;rcases key b p e with⟨_,rfl⟩ | ⟨_,e⟩
  ·exact⟨hro,hna⟩
  ·exact hall b p e
 refine⟨?_,?_,?_,?_,?_,h.size,h.below,h.out,h.os,?_,Ai.le_trans h.le hle,h.grow⟩
 ·intro b p hb T' hT';rcases key b p hb with⟨rfl,rfl⟩ | ⟨hne,hb⟩
  ·rw[Ai.Av]at hT';cases hT'
   exact⟨o',hT,ho.mono hle⟩
  ·rw[Ai.Bl _ _ hne]at hT';obtain⟨o2,h2,h3⟩:=h.obj b p hb T' hT';exact⟨o2,h2,h3.mono hle⟩
 ·intro b p hb hr T' hT';rw[(kro b p hb).1]at hr;cases hr
 ·intro b1 b2 o1 o2 h1 h2 T1 T2 m1 m2 _ _ hc hrr;rcases hrr with hr | hr
  ·rw[(kro b1 o1 h1).1]at hr;cases hr
  ·rw[(kro b2 o2 h2).1]at hr;cases hr
 ·intro b hb;have hb:H.next+1<=b:=hb;refine⟨?_,by rw[Ai.Bl _ _ (by omega)];exact(h.fresh b (by omega)).2⟩;rw[AA.AW,if_neg (by omega)];exact(h.fresh b (by omega)).1
 ·intro b T' hT'
  by_cases e:b=H.next
  ·subst e;rw[Ai.Av]at hT';cases hT';exact hlt
  ·rw[Ai.Bl _ _ e]at hT';exact h.bound b T' hT'
 ·refine⟨fun _ _=>False,fun b a ro T' h1 h2=>?_,fun b a ro T' h1 h2=>?_⟩
  ·have:=(kro b _ h1).2;cases this
  ·have:=(kro b _ h1).2;cases this
end
theorem Io (n b:Nat):(⟨.leaf,n⟩:AA).get b=none:=by
 cases h:(⟨.leaf,n⟩:AA).get b with
 | none=>rfl
 | some o=>
  exfalso;have:(Tr.leaf:Tr AK).get b=some o:=h;unfold Tr.get at this;cases hp:F4.of b<;>rw[hp]at this<;>cases this
theorem Og {k:EK} {c:List Value}:∀(l:List (EK.C k)) (o:Nat),(∀i x,l[i]? = some x->∀j v,(EK.enc k x)[j]? = some v->c[o+(i * k.length+j)]? = some v)->(c.drop o).take (l.length * k.length)=A2 k l
 | [],o,_=>by simp[A2]
 | x::l,o,h=>by
  have ih:=Og l (o+k.length) (fun i y hi j v hj=>by
   have:=h (i+1) y (by simpa using hi) j v hj;rw[Nat.succ_mul]at this;rw[show o+k.length+(i * k.length+j)=o+(i * k.length+k.length+j)from by omega];exact this)
  rw[Cw,List.length_cons,Nat.succ_mul,Nat.add_comm (l.length * k.length),List.take_add,List.drop_drop,ih]
  congr 1
  apply List.ext_getElem?
  intro j;rcases Nat.lt_or_ge j k.length with q | q
  ·rw[List.getElem?_take,if_pos q,List.getElem?_drop];have hl:j < (EK.enc k x).length:=by rw[EK.CW];exact q
   rw[List.getElem?_eq_getElem hl];have:=h 0 x rfl j _ (List.getElem?_eq_getElem hl);rw[Nat.zero_mul,Nat.zero_add]at this;exact this
  ·rw[List.getElem?_take,if_neg (by omega),List.getElem?_eq_none (by rw[EK.CW];exact q)]
theorem Yl {w:World} {b o n:Nat} {cs:List Value} {c:Array Value} {t:TypeId} {fz:Nat × Nat} (hb:w.heap[b]? = some (.cells c t fz)) (h:w.cells? 0 ⟨b,o,none⟩ n=some cs):∀(j:Nat) v,cs[j]? = some v->c.toList[o+j]? = some v:=by
 unfold World.cells? at h;rw[if_pos (Nat.zero_le _)]at h;intro j v hj;have hl:=Nl h;have hjn:j < n:=by
  rcases Nat.lt_or_ge j n with q | q
  ·exact q
  ·rw[List.getElem?_eq_none (by rw[hl];simpa using q)]at hj;cases hj
 have key:∀(l:List Nat) (m:List Value),l.mapM (fun i=>w.cell? ((⟨b,o,none⟩:Addr).add i))=some m->∀(i a:Nat) v,l[i]? = some a->m[i]? = some v->w.cell? ((⟨b,o,none⟩:Addr).add a)=some v:=by
  intro l;induction l with
  | nil=>intro m _ i a v hi;cases hi
  | cons x r ih=>
   intro m hm i a v hi hv;rw[List.mapM_cons]at hm;cases hx:w.cell? ((⟨b,o,none⟩:Addr).add x)with
   | none=>rw[hx]at hm;simp at hm
   | some y=>
    rw[hx]at hm;simp only[Option.pure_def,Option.bind_eq_bind,Option.bind_some]at hm;cases hr:r.mapM (fun i=>w.cell? ((⟨b,o,none⟩:Addr).add i))with
    | none=>rw[hr]at hm;simp at hm
    | some m'=>
     rw[hr]at hm;simp only[Option.bind_some,Option.some.injEq]at hm;subst hm;cases i with
     | zero=>
      have h1:x=a:=by simpa using hi
      have h2:y=v:=by simpa using hv
      subst h1 h2;exact hx
     | succ i=>exact ih m' hr i a v (by simpa using hi) (by simpa using hv)
 have:=key _ _ h j j v (by rw[List.getElem?_range hjn]) hj;unfold World.cell? at this;have e:((⟨b,o,none⟩:Addr).add j)=⟨b,o+j,none⟩:=by
  unfold Addr.add
  by_cases hj:j=0
  ·subst hj;simp
  ·simp[hj]
 rw[e]at this;simp only[hb]at this;simpa using this
theorem FZ:∀(k:EK),k.all SK.plain=true->∀x:EK.C k,(EK.enc k x).all flat=true
 | [],_,_=>rfl
 | [s],h,x=>by
  cases s with
  | int k=>rfl
  | bool=>rfl
  | str=>rfl
  | tok=>simp[SK.plain]at h
 | s::t::r,h,x=>by
  rw[List.all_cons,Bool.and_eq_true]at h;simp only[EK.enc,List.all_cons,Bool.and_eq_true];refine⟨?_,FZ (t::r) h.2 x.2⟩;cases s with
  | int k=>rfl
  | bool=>rfl
  | str=>rfl
  | tok=>simp[SK.plain]at h
theorem TM (μ:Ai) (k:EK) (hk:k.all SK.plain=true) (l:List (EK.C k)):BD μ (A2 k l) (A2 k l):=by
 refine ES _ ?_;unfold A2;rw[List.all_eq_true];intro v hv;obtain⟨x,_,hx⟩:=List.mem_flatMap.1 hv;exact List.all_eq_true.1 (FZ k hk x) v hx
theorem Qp {X:Ctx} {W:World} {μ:Ai} {H:AA} (s3:AT (K2 W) W μ H W) (s2:Bp X μ) (hall:∀b p,H.get b=some p->p.ro=true/\p.isAbs=false) {P:Program} {HH:Type} {enc:TypeId × Value->HH} {t e:TypeId} {k:EK} (hu:P.underlying t=some (.slice e))
 (hk:KY P e k=true) (hpl:k.all SK.plain=true) {r:Go.Reach} {bs:Nat} {v:Value} (hok:Cell.okWide P W r bs t v) {held:Bool} {fuel:Nat} {d:DataW HH} {ps:List MemPlace} (htr:DataW.trod enc P W 0 (fun _=>true) held fuel t [v]=some (d,ps)):
 v= .slice none 0 0∨∃(l:List (EK.C k)) (T:B7),(∀x∈l,EK.K6 k x)/\l.length<=maxLen/\AT (K2 W) W (μ.ext H.next T) (H.alloc (.vec k l true)) W/\Bp X (μ.ext H.next T)/\
  AM (μ.ext H.next T) (.slice (some ⟨H.next,0,some 0⟩) l.length AF) v:=by
 rcases trod_slice hu hk htr with rfl | ⟨a,len,cap,rfl,h1,h2,l,h3,h4⟩
 ·exact .inl rfl
 ·right
  have hk0:0 < k.length:=by
   unfold KY at hk;simp only[Bool.and_eq_true]at hk;rcases Nat.eq_zero_or_pos k.length with q | q
   ·rw[q]at hk;simp at hk
   ·exact q
  have hsh:∃b o c t' fz,a=⟨b,o,none⟩/\W.heap[b]? = some (.cells c t' fz):=by
   unfold Cell.okWide Cell.ok at hok;rw[hu]at hok
   simp only at hok;obtain⟨_,_,h3⟩:=hok;obtain⟨_,hs,row,cells,hsh,_⟩:=h3;obtain⟨b,o,sp⟩:=a;simp only at hs;subst hs;unfold World.shape? at hsh;simp only at hsh;split at hsh
   ·rename_i c t' fz hb;exact⟨b,o,c,t',fz,rfl,hb⟩
   ·cases hsh
  obtain⟨b,o,c,t',⟨f1,f2⟩,rfl,hb⟩:=hsh;have hcell:∀i x,l[i]? = some x->∀j v,(EK.enc k x)[j]? = some v->c.toList[o+(i * k.length+j)]? = some v:=by
   intro i x hi j v hj;obtain⟨q1,_⟩:=h4 i x hi;have e:((⟨b,o,none⟩:Addr).add (i * k.length))=⟨b,o+i * k.length,none⟩:=by
    unfold Addr.add
    by_cases hz:i * k.length=0
    ·simp[hz]
    ·simp[hz]
   rw[e]at q1;have:=Yl hb q1 j v hj;rw[Nat.add_assoc]at this;exact this
  have hok2:∀x∈l.take len,EK.K6 k x:=fun x hx=>by
   obtain⟨i,hi⟩:=List.getElem?_of_mem (List.mem_of_mem_take hx);exact(h4 i x hi).2
  have hlen:(l.take len).length=len:=by rw[List.length_take];omega
  have hmax:maxLen=9223372036854775807:=by unfold maxLen;rfl
  by_cases hc0:cap=0
  ·have hl0:len=0:=by omega
   subst hc0 hl0;have hl:l=[]:=List.eq_nil_of_length_eq_zero h3;subst hl;refine⟨[],⟨b,0,c.size,k.length⟩,by simp,Nat.zero_le _,?_,s2.mono (Ai.DU _ (s3.fresh H.next (Nat.le_refl _)).2),?_⟩
   ·refine s3.U1 hall rfl rfl hb (.vec _ k [] true _ (.cells _ _ _ _ c t' f1 f2 rfl ?_ (by simp) (fun q=>by cases q)));simp[A2];exact .nil
   ·exact .C8 H.next 0 AF ⟨b,0,c.size,k.length⟩ (some (b,o)) (Ai.Av _ _ _) (.inr ⟨Nat.le_refl _,Nat.sub_self _⟩)
  ·have hsz:o+cap * k.length<=c.size:=by
    have hx:cap - 1 < l.length:=by omega
    have hj:k.length - 1 < (EK.enc k l[cap - 1]).length:=by rw[EK.CW];omega
    have:=hcell (cap - 1) l[cap - 1] (List.getElem?_eq_getElem hx) (k.length - 1) _ (List.getElem?_eq_getElem hj);have hlt:o+((cap - 1) * k.length+(k.length - 1)) < c.toList.length:=by
     rcases Nat.lt_or_ge (o+((cap - 1) * k.length+(k.length - 1))) c.toList.length with q | q
     ·exact q
     ·rw[List.getElem?_eq_none q]at this;cases this
    have e:cap * k.length=(cap - 1) * k.length+k.length:=by
     obtain⟨m,rfl⟩:∃m,cap=m+1:=⟨cap - 1,by omega⟩
     rw[Nat.succ_mul];rfl
    simp at hlt;omega
   refine⟨l.take len,⟨b,o,c.size - o,k.length⟩,hok2,by rw[hlen];omega,?_,s2.mono (Ai.DU _ (s3.fresh H.next (Nat.le_refl _)).2),?_⟩
   ·refine s3.U1 hall rfl rfl hb (.vec _ k _ true _ (.cells _ _ _ _ c t' f1 f2 rfl ?_ (by show c.size=o+(c.size - o);omega) (fun q=>by cases q)));have e:=Og (c:=c.toList) (l.take len) o (fun i x hi j v hj=>hcell i x (by
     rw[List.getElem?_take]at hi;split at hi
     ·exact hi
     ·cases hi) j v hj)
    rw[CM];show BD _ _ ((c.toList.drop o).take _);rw[e];exact TM _ k hpl (l.take len)
   ·rw[hlen];refine .Bw H.next 0 len AF cap o ⟨b,o,c.size - o,k.length⟩ (Ai.Av _ _ _) (.inr ⟨Nat.le_refl _,by omega,h1,?_,.inr (by omega)⟩) (.inl (by simp)) ?_
    ·show 0 * k.length+cap * k.length<=c.size - o;omega
    ·show c.size - o≠0;have:=Nat.mul_pos (show 0 < cap by omega) hk0;omega
theorem Sl {X:Ctx} {W:World} (hok:EA X (K2 W) W) (hplan:Fo X) {f:FuncId} {n N:Nat} (he:entry X.P f=some (n,BI X.P f [])) {μ:Ai} {H:AA} (hH:AT (K2 W) W μ H W) (hl:Bp X μ)
 {args:List Value} {args':Array Value} (ha:BD μ args args'.toList) (hn:args.length<=n) {v:Value} (hrun:Ad X N f (fun v' _=>v'=v) (G3 f (Cb 0 args .leaf) n (BI X.P f []) H)) (hv:flat v=true):
 Calls X.P f args' W fun e W'=>e= .returned v/\D5 W W':=by
 intro cs;obtain⟨c',⟨v2,Hf,hd,rfl⟩,μ1,fr1,cs1,W1,st,m1⟩:=hrun (K2 W) W (fun b T h=>by cases h) hok hplan cs _ _ [] W (GB hH hl he ha hn);obtain⟨rfl,hf,v',e1,e2,e3⟩:=HA m1 hd;have hs':Steps X.P (lone (Frame.enter X.P f args' .normal) cs W) (lone fr1 cs W1):=by simpa using st
 refine⟨.returned v',W1,fr1,⟨?_,e2.Z9⟩,hs',hf,e1⟩;rw[FL hv e3]
theorem V5 {X:Ctx} {W:World} (hL:Ds X (K2 W) W) {n:Nat} (hn:(X.laid.all fun p=>Nat.blt p.1 n)=true) {P:Program} {H:Type} {enc:TypeId × Value->H} {t e:TypeId} {k:EK} (hu:P.underlying t=some (.slice e))
 (hk:KY P e k=true) (hpl:k.all SK.plain=true) {r:Go.Reach} {bs:Nat} {v:Value} (hok:Cell.okWide P W r bs t v) {held:Bool} {fuel:Nat} {d:DataW H} {ps:List MemPlace} (htr:DataW.trod enc P W 0 (fun _=>true) held fuel t [v]=some (d,ps)):
 ∃μ,AT (K2 W) W μ ⟨.leaf,n⟩ W/\Bp X μ/\(v= .slice none 0 0∨∃(l:List (EK.C k)) (T:B7),(∀x∈l,EK.K6 k x)/\l.length<=maxLen/\AT (K2 W) W (μ.ext n T) ((⟨.leaf,n⟩:AA).alloc (.vec k l true)) W/\Bp X (μ.ext n T)/\
  AM (μ.ext n T) (.slice (some ⟨n,0,some 0⟩) l.length AF) v):=by
 obtain⟨s1,s2⟩:=NT (X:=X) hL (none_le _) (fun _ hi=>hi) (n:=n) (OD hn);have s3:AT (K2 W) W (NF X.laid) ⟨.leaf,n⟩ W:=s1.sub (H':=⟨.leaf,n⟩) (fun b o hb=>by rw[Io]at hb;cases hb) (by rw[Hm]);exact⟨NF X.laid,s3,s2,Qp s3 s2 (fun b p hb=>by rw[Io]at hb;cases hb) hu hk hpl hok htr⟩
theorem Qj {X:Ctx} {W:World} {μ:Ai} {H:AA} (s3:AT (K2 W) W μ H W) (s2:Bp X μ) (hall:∀b p,H.get b=some p->p.ro=true/\p.isAbs=false) (hm:∃g Tg,μ g=some Tg) {P:Program} {HH:Type} {enc:TypeId × Value->HH} {t e:TypeId} {k:EK} (hu:P.underlying t=some (.slice e))
 (hk:KY P e k=true) (hpl:k.all SK.plain=true) {r:Go.Reach} {bs:Nat} {v:Value} (hok:Cell.okWide P W r bs t v) {held:Bool} {fuel:Nat} {d:DataW HH} {ps:List MemPlace} (htr:DataW.trod enc P W 0 (fun _=>true) held fuel t [v]=some (d,ps)):
 ∃(l:List (EK.C k)) (T:B7),(∀x∈l,EK.K6 k x)/\l.length<=maxLen/\AT (K2 W) W (μ.ext H.next T) (H.alloc (.vec k l true)) W/\Bp X (μ.ext H.next T)/\
  AM (μ.ext H.next T) (.slice (some ⟨H.next,0,some 0⟩) l.length AF) v:=by
 rcases Qp s3 s2 hall hu hk hpl hok htr with rfl | h
 ·obtain⟨g,Tg,hg⟩:=hm;have hk0:k.length≠0:=by
   unfold KY at hk;simp only[Bool.and_eq_true]at hk;intro q;rw[q]at hk;simp at hk
  obtain⟨h1,h2⟩:=s3.CR hg hk0 true;exact⟨[],_,fun x hx=>(by cases hx),Nat.zero_le _,h1,s2.mono h2.le,.C8 H.next 0 AF _ none (Ai.Av _ _ _) (.inr ⟨Nat.le_refl _,Nat.sub_self _⟩)⟩
 ·exact h
end Go.AI
namespace Go.AI
open Go.Proofs
structure iL (m:AB) (L:List (List (EK.C AR))):Prop where
 ne:L≠[]
 st:m.state=2
 now:m.now=A3 L
 cost:m.cost=BG (A3 L)
 AJ:m.AJ.length=L.length - 1
 JT:Je L
 pre:BT m.base m.AJ=L
 len:L.length<=1001
theorem E1.waits {cfg:List Int} {m:AB} {L:List (List (EK.C AR))} {i:Nat} (h:E1 cfg m L i) (pl:Bool):iL (At m 2 pl) L:=
 ⟨h.ne,rfl,h.inv.now,h.inv.cost,h.inv.AJ,h.JT,h.pre,by have:=h.inv.Iu;have:=h.inv.le;omega⟩
theorem P7 {x y:Int} {A B:Prop} (h:x=y) (h1:B):(bif x != y then A else B):=by
 rw[show(x != y)=false by simp[h]];exact h1
section
variable {m:AB} {L:List (List (EK.C AR))} {cfg:List Int} {l more:List (EK.C Bq)}
theorem iL.last (h:iL m L):L[L.length - 1]? = some (A3 L)/\Dz (A3 L):=⟨K3 h.ne,(h.JT _ (JR h.ne)).2⟩
theorem iL.base (h:iL m L):m.base.length < 1000000:=by
 have hm:m.base∈BT m.base m.AJ:=by cases m.AJ<;>(unfold BT;simp)
 rw[h.pre]at hm;exact(h.JT _ hm).2.1
abbrev L8:Value->AA->Prop:=fun v _=>v= .bool true
end
def Px (x:EK.C Bq):Prop:=DJ x.1/\DJ x.2.1/\DJ x.2.2
section
variable {m:AB} {L:List (List (EK.C AR))} {cfg:List Int} {l more:List (EK.C Bq)} {i:Nat} {times:Int}
theorem E1.jx (h:E1 cfg m L i):At m 0 false=m:=by
 obtain⟨c,lim,bs,nw,cost,AJ,st0,pl⟩:=m;have h1:=h.inv.st;have h2:=h.inv.pl;simp only at h1 h2;subst h1 h2;rfl
end
structure ZU (m:AB) (k a b:Int) (key val:ByteArray) (e:Int) (sv:ByteArray):Prop where
 cfg:m.cfg.length=7
 gd:EL 7 a b key val
 k:k=7
 st:m.state=0∨m.state=1
 e:e=0
 sv:sv={ data:=#[] }
 a:a=0∨(m.state=0/\0 < a)
structure YX (m:AB) (k a b:Int) (key val:ByteArray) (e:Int) (sv:ByteArray):Prop where
 cfg:m.cfg.length=7
 gd:EL k a b key val
 st:m.state=1
 k:k=8∨k=5
 e:e=0
 sv:sv={ data:=#[] }
structure dj (w:Nat) (m:AB) (k a b:Int) (key val:ByteArray) (e:Int) (sv:ByteArray):Prop where
 ok:gw m k a b key val e sv
 w0:w=0->P4 m k key val=false
 w1:w=1->P4 m k key val=true/\Wh m k key val=false
 w2:w=2->Wh m k key val=true
 lt:w < 3
def fv (w:Nat) (args:List Value) (objs:List AK):GT:=
 match args,objs with
 | [.pointer (some ⟨9,0,none⟩),.agg ⟨[.int .i64 k,.int .i64 a,.int .i64 b,.string key,.string val]⟩,.agg ⟨[.int .i64 e,.string sv]⟩],[.abs (.pack (.model m)) _]=>
  .test (k==7) (.ask (ZU m k a b key val e sv) (.test (a==0) (.ret ⟨.int .i64 0,[some (.abs (.pack (.model (At m 1 false))) false)],[]⟩) (.ret ⟨.int .i64 0,[some (.abs (.pack (.model (At m 0 true))) false)],[]⟩)))
   (.test (m.state==1) (.ask (YX m k a b key val e sv) (.test (k==8) (.ret ⟨.int .i64 0,[some (.abs (.pack (.model (At m 2 m.AG))) false)],[]⟩) (.ret ⟨.int .i64 7,[some (.abs (.pack (.model m)) false)],[]⟩)))
    (.ask (dj w m k a b key val e sv) (.test (Nat.beq w 2) (.ret ⟨.int .i64 0,[some (KI (At m 1 false) 10 11 12 13)],[Bi m.base,Bi m.now,.vec BL m.AJ false,II (k==3) key val]⟩)
     (.test (Nat.beq w 1) (.ret ⟨.int .i64 0,[some (.abs (.pack (.model (At m 1 false))) false)],[]⟩) (.ret ⟨.int .i64 7,[some (.abs (.pack (.model m)) false)],[]⟩)))))
 | _,_=> .fail
theorem F3 {p:Prop} {g:GT} {x:IL} (h:(GT.ask p g).run=some x):p/\g.run=some x:=by
 simp only[GT.run]at h;split at h
 ·rename_i hp;exact⟨hp,h⟩
 ·cases h
theorem EP {p:Prop} {g:GT} (h:p):(GT.ask p g).run=g.run:=by
 simp only[GT.run];rw[if_pos h]
theorem C7 {b c:Bool} {g1 g2:GT} (h:b=c):(GT.test b g1 g2).run=(bif c then g1.run else g2.run):=by
 subst h;cases b<;>rfl
theorem U6 {m:AB} {a b:Int} {key val:ByteArray} (hg:EL 7 a b key val) (h:m.state=0∨m.state=1):L0 m 7 a b key val 0 { data:=#[] }=some (At m (bif a==0 then 1 else m.state) (decide (a > 0))):=by
 have h2:(m.state==2)=false:=by rcases h with e | e<;>rw[e]<;>rfl
 unfold L0;rw[h2,Em hg,fm];rfl
theorem aY {w:Nat} (args:List Value) (objs:List AK) (x:IL) (hx:(fv w args objs).run=some x):(bL args objs).run=some x:=by
 unfold fv at hx;split at hx
 ·rename_i k a b key val e sv m ro;show(GT.test _ _ _).run=some x;cases h7:k==7
  ·rw[C7 h7]at hx;cases h1:m.state==1
   ·rw[cond_false,C7 h1]at hx;obtain⟨hw,hx⟩:=F3 hx;have hok:=hw.ok;rw[C7 (c:=false) (by rw[hok.st];simp),cond_false,C7 (c:=true) hok.pl,cond_true];show(GT.ask _ _).run=some x;rw[EP hok]
    match w,hw,hx with
    | 0,hw,hx=>
     have hb:=hw.w0 rfl;have hu:Wh m k key val=false:=by unfold Wh;rw[hb];rfl
     rw[C7 hu,cond_false,hb];exact hx
    | 1,hw,hx=>
     obtain⟨hb,hu⟩:=hw.w1 rfl;rw[C7 hu,cond_false,hb];exact hx
    | 2,hw,hx=>
     rw[C7 (hw.w2 rfl),cond_true];exact hx
    | w+3,hw,hx=>
     exact absurd hw.lt (by omega)
   ·rw[cond_false,C7 h1,cond_true]at hx;obtain⟨hr,De⟩:=F3 hx;clear hx;obtain⟨hcfg,hgd,hst,hk,rfl,rfl⟩:=hr;rw[C7 (c:=true) (by rw[hst];rfl),cond_true];show(GT.ask _ _).run=some x;rw[EP ⟨hcfg,hgd.ok,.inr (.inl hst)⟩];rcases hk with rfl | rfl
    ·have hd:L0 m 8 a b key val 0 { data:=#[] }=some (At m 2 m.AG):=by
      unfold L0;rw[hst,Em hgd,fm];rfl
     unfold jc jd;rw[hd];exact De
    ·have hd:L0 m 5 a b key val 0 { data:=#[] }=none:=by
      unfold L0;rw[hst,Em hgd,fm];rfl
     unfold jc jd;rw[hd];exact De
  ·rw[C7 h7,cond_true]at hx;obtain⟨hc,De⟩:=F3 hx;clear hx;obtain⟨hcfg,hgd,rfl,hst,rfl,rfl,ha⟩:=hc;rw[C7 (c:=true) (by simp),cond_true];show(GT.ask _ _).run=some x;rw[EP ⟨hcfg,hgd.ok,by rcases hst with e | e;exact .inr (.inr ⟨e,rfl,Em hgd⟩);exact .inr (.inl e)⟩];unfold jc jd;rw[U6 hgd hst];rcases ha with rfl | ⟨h0,ha⟩
   ·exact De
   ·have e:(a==0)=false:=by simp;omega
    rw[C7 e,cond_false]at De;rw[e,cond_false,h0,decide_eq_true (show a > 0 from ha)];exact De
 ·cases hx
theorem J9 {X:Ctx} {f:FuncId} {mu:List Bool} {G G':List Value->List AK->GT} (hX:X.Ep f=some (Al AL 9 mu G)) (hG:∀args objs x,(G' args objs).run=some x->(G args objs).run=some x) (args:List Value) (H:AA) (K:Value->AA->Prop) (h:BU AL 9 mu G' args H K):
 ∃v H',Bd X f args .normal H=some (v,H')/\K v H':=by
 obtain⟨v,H',h1,h2⟩:=DA h;refine⟨v,H',?_,h2⟩;unfold Bd;simp only[hX];exact Hw hG args H _ h1
theorem Ph {G1 G1' G2 G2':List Value->List AK->GT} (h1:∀args objs x,(G1' args objs).run=some x->(G1 args objs).run=some x) (h2:∀args objs x,(G2' args objs).run=some x->(G2 args objs).run=some x) (args:List Value) (objs:List AK) (x:IL) (h:(SR G1' G2' args objs).run=some x):(SR G1 G2 args objs).run=some x:=by
 unfold SR at h ⊢;split at h
 ·exact h1 _ _ _ h
 ·exact h2 _ _ _ h
def gO (c0 c1 c2 c3 c4 c5 c6 lim:Int) (b n:Nat) (cost:Int) (x n3 k3 u:Nat) (sta:Int) (pl:Bool):AK:=
 .cells [.int .i64 c0,.int .i64 c1,.int .i64 c2,.int .i64 c3,.int .i64 c4,.int .i64 c5,.int .i64 c6,.int .i64 lim,.pointer (some ⟨b,0,none⟩),.pointer (some ⟨n,0,none⟩),.int .i64 cost,.slice (some ⟨x,0,some 0⟩) n3 k3,.pointer (some ⟨u,0,none⟩),.int .i64 sta,.bool pl] 0 false
def gG (args:List Value) (objs:List AK):GT:=
 match args,objs with
 | [.pointer (some ⟨9,0,none⟩)],
  [.cells [.int .i64 c0,.int .i64 c1,.int .i64 c2,.int .i64 c3,.int .i64 c4,.int .i64 c5,.int .i64 c6,.int .i64 lim,.pointer (some ⟨10,0,none⟩),.pointer (some ⟨11,0,none⟩),.int .i64 cost,.slice (some ⟨12,0,some 0⟩) n3 k3,.pointer (some ⟨13,0,none⟩),.int .i64 sta,.bool pl] 0 _,
   .abs (.pack (.table bs)) _,.abs (.pack (.table nw)) _,.vec [.bool,.str,.str] AJ _,.cells [.bool del,.string uk,.string uv] 0 _]=>
  .ask (n3=AJ.length/\k3=AF) (.ret ⟨.bool (sta==2),[some (gO c0 c1 c2 c3 c4 c5 c6 lim 10 11 cost 12 n3 k3 13 sta pl),some (Bi bs),some (Bi nw),some (.vec BL AJ false),some (II del uk uv)],[]⟩)
 | _,_=> .fail
theorem YL (args:List Value) (objs:List AK) (x:IL) (hx:(gG args objs).run=some x):(KZ Yt args objs).run=some x:=by
 unfold gG at hx;split at hx
 ·obtain⟨⟨rfl,rfl⟩,hx⟩:=F3 hx;exact(EP ⟨rfl,rfl⟩).trans hx
 ·cases hx
structure gg (sta k a b:Int) (key val:ByteArray) (e:Int) (sv:ByteArray):Prop where
 st:sta=1
 k:k=5∨k=8
 a:a=0
 b:b=0
 key:key={ data:=#[] }
 val:val={ data:=#[] }
 e:e=0
 sv:sv={ data:=#[] }
def fR (args:List Value) (objs:List AK):GT:=
 match args,objs with
 | [.pointer (some ⟨9,0,none⟩),.agg ⟨[.int .i64 k,.int .i64 a,.int .i64 b,.string key,.string val]⟩,.agg ⟨[.int .i64 e,.string sv]⟩],
  [.cells [.int .i64 c0,.int .i64 c1,.int .i64 c2,.int .i64 c3,.int .i64 c4,.int .i64 c5,.int .i64 c6,.int .i64 lim,.pointer (some ⟨10,0,none⟩),.pointer (some ⟨11,0,none⟩),.int .i64 cost,.slice (some ⟨12,0,some 0⟩) n3 k3,.pointer (some ⟨13,0,none⟩),.int .i64 sta,.bool pl] 0 _,
   .abs (.pack (.table bs)) _,.abs (.pack (.table nw)) _,.vec [.bool,.str,.str] AJ _,.cells [.bool del,.string uk,.string uv] 0 _]=>
  .ask ((n3=AJ.length/\k3=AF)/\gg sta k a b key val e sv) (.test (k==8) (.ret ⟨.int .i64 0,[some (gO c0 c1 c2 c3 c4 c5 c6 lim 10 11 cost 12 n3 k3 13 2 pl),some (Bi bs),some (Bi nw),some (.vec BL AJ false),some (II del uk uv)],[]⟩)
   (.ret ⟨.int .i64 7,[some (gO c0 c1 c2 c3 c4 c5 c6 lim 10 11 cost 12 n3 k3 13 sta pl),some (Bi bs),some (Bi nw),some (.vec BL AJ false),some (II del uk uv)],[]⟩))
 | _,_=> .fail
theorem ZS (args:List Value) (objs:List AK) (x:IL) (hx:(fR args objs).run=some x):(KZ YK args objs).run=some x:=by
 unfold fR at hx;split at hx
 ·obtain⟨⟨⟨rfl,rfl⟩,⟨rfl,hk,rfl,rfl,rfl,rfl,rfl,rfl⟩⟩,De⟩:=F3 hx;clear hx;refine(EP ⟨rfl,rfl⟩).trans ((EP ⟨rfl,hk,rfl,rfl,rfl,rfl,rfl,rfl⟩).trans ?_);rcases hk with rfl | rfl<;>exact De
 ·cases hx
def fW (args:List Value) (objs:List AK):GT:=
 match args,objs with
 | [.pointer (some ⟨9,0,none⟩)],
  [.cells [.int .i64 c0,.int .i64 c1,.int .i64 c2,.int .i64 c3,.int .i64 c4,.int .i64 c5,.int .i64 c6,.int .i64 lim,.pointer (some ⟨10,0,none⟩),.pointer (some ⟨11,0,none⟩),.int .i64 cost,.slice (some ⟨12,0,some 0⟩) n3 k3,.pointer (some ⟨13,0,none⟩),.int .i64 sta,.bool pl] 0 _,
   .abs (.pack (.table bs)) _,.abs (.pack (.table nw)) _,.vec [.bool,.str,.str] AJ _,.cells [.bool del,.string uk,.string uv] 0 _]=>
  .ask ((n3=AJ.length/\k3=AF)/\bs.length < 1000000/\nw.length < 1000000/\AJ.length < 1000000) (.ret ⟨.pointer (some ⟨14,0,none⟩),[some (gO c0 c1 c2 c3 c4 c5 c6 lim 10 11 cost 12 n3 k3 13 sta pl),some (Bi bs),some (Bi nw),some (.vec BL AJ false),some (II del uk uv)],[gO c0 c1 c2 c3 c4 c5 c6 lim 15 16 cost 17 n3 k3 13 sta pl,Bi bs,Bi nw,.vec BL AJ false]⟩)
 | _,_=> .fail
theorem ZF (args:List Value) (objs:List AK) (x:IL) (hx:(fW args objs).run=some x):(KZ Wq args objs).run=some x:=by
 unfold fW at hx;split at hx
 ·obtain⟨⟨⟨rfl,rfl⟩,h⟩,hx⟩:=F3 hx;exact(EP ⟨rfl,rfl⟩).trans ((EP h).trans hx)
 ·cases hx
abbrev fP:List Value->List AK->GT:=SR bL (KZ YK)
abbrev jC (w:Nat):EB:=BU AL 9 Dk (SR (fv w) fR)
theorem cR {X:Ctx} {f:FuncId} {w:Nat} (hX:X.Ep f=some (Al AL 9 Dk fP)) (args:List Value) (H:AA) (K:Value->AA->Prop) (h:jC w args H K):∃v H',Bd X f args .normal H=some (v,H')/\K v H':=
 J9 hX (Ph (fun a o x h=>aY a o x h) ZS) args H K h
def eB (args:List Value) (objs:List AK):GT:=
 match args,objs with
 | [.pointer (some ⟨9,0,none⟩)],[.abs (.pack (.model m)) _]=> .ret ⟨.bool (m.state==2),[some (.abs (.pack (.model m)) false)],[]⟩
 | _,_=> .fail
theorem cj (args:List Value) (objs:List AK) (x:IL) (hx:(eB args objs).run=some x):(Mw.G args objs).run=some x:=by
 unfold eB at hx;split at hx
 ·exact(EP rfl).trans hx
 ·cases hx
abbrev fw:EB:=BU AL 9 Dk (SR eB gG)
theorem Us {X:Ctx} {f:FuncId} (hX:X.Ep f=some (Al AL 9 Dk (SR Mw.G (KZ Yt)))) (args:List Value) (H:AA) (K:Value->AA->Prop) (h:fw args H K):∃v H',Bd X f args .normal H=some (v,H')/\K v H':=
 J9 hX (Ph (fun a o x h=>cj a o x h) YL) args H K h
abbrev il:EB:=BU AL 9 Dk (SR Ia fW)
theorem Z7 {X:Ctx} {f:FuncId} (hX:X.Ep f=some (Al AL 9 Dk (SR Ia (KZ Wq)))) (args:List Value) (H:AA) (K:Value->AA->Prop) (h:il args H K):∃v H',Bd X f args .normal H=some (v,H')/\K v H':=
 J9 hX (Ph (fun _ _ _ h=>h) ZF) args H K h
structure j4 (m:AB) (ks vs:List (EK.C kS)) (cur:List (EK.C AR)):Prop where
 ok:cd m ks vs
 is:Cq (BT m.base m.AJ) ks vs=some cur
structure jn (m:AB) (del:Bool) (uk uv:ByteArray) (ks vs:List (EK.C kS)) (cur:List (EK.C AR)):Prop where
 ok:Zd m del uk uv ks vs
 is:Xq m del uk uv ks vs=some cur
theorem bN {f:FuncId} {F1 F2:Cn} (h1:C3 Tryz.prog AL f F1) (h2:C3 Tryz.prog AL f F2):C3 Tryz.prog AL f (jO F1 F2):=
 C3.or h1 h2 fun args H r h=>by
  unfold jO at h;cases hb:aC args H<;>rw[hb]at h
  ·exact .inr h
  ·exact .inl h
abbrev bc:Cn:=jO (Al AL 9 [true] iW) (Al AL 9 Dk Yw)
theorem bR:C3 Tryz.prog AL AD bc:=bN eN cz
theorem UE {X:Ctx} {f:FuncId} {F1 F2:Cn} {p1 p2:EB} (hX:X.Ep f=some (jO F1 F2)) (h1:∀(args:List Value) (H:AA) (K:Value->AA->Prop),p1 args H K->∃v H',F1 args H=some (v,H')/\K v H')
 (h2:∀(args:List Value) (H:AA) (K:Value->AA->Prop),p2 args H K->∃v H',F2 args H=some (v,H')/\K v H') (args:List Value) (H:AA) (K:Value->AA->Prop) (h:Zp p1 p2 args H K):∃v H',Bd X f args .normal H=some (v,H')/\K v H':=by
 unfold Zp at h;unfold Bd;simp only[hX];unfold jO;cases hb:aC args H<;>rw[hb]at h
 ·exact h2 args H K h
 ·exact h1 args H K h
theorem Mt {mu:List Bool} {G G':List Value->List AK->GT} (hG:∀args objs x,(G' args objs).run=some x->(G args objs).run=some x) (args:List Value) (H:AA) (K:Value->AA->Prop) (h:BU AL 9 mu G' args H K):∃v H',Al AL 9 mu G args H=some (v,H')/\K v H':=by
 obtain⟨v,H',h1,h2⟩:=DA h;exact⟨v,H',Hw hG args H _ h1,h2⟩
def eM (cur:List (EK.C AR)) (args:List Value) (objs:List AK):GT:=
 match args,objs with
 | [.pointer (some ⟨9,0,none⟩),.slice (some ⟨10,0,some 0⟩) n1 k1,.slice (some ⟨11,0,some 0⟩) n2 k2],[.abs (.pack (.model m)) _,.vec [.str] ks _,.vec [.str] vs _]=>
  .ask ((n1=ks.length/\k1=AF)/\(n2=vs.length/\k2=AF)/\j4 m ks vs cur) (.ret ⟨.int .i64 0,[some (.abs (.pack (.model (mO m cur))) false)],[]⟩)
 | _,_=> .fail
theorem cY {cur:List (EK.C AR)} (args:List Value) (objs:List AK) (x:IL) (hx:(eM cur args objs).run=some x):(iW args objs).run=some x:=by
 unfold eM at hx;split at hx
 ·rename_i n1 k1 n2 k2 m r0 ks r1 vs r2;obtain⟨⟨h1,h2,h3⟩,hx⟩:=F3 hx;show(GT.ask _ _).run=some x;rw[EP ⟨h1,h2,h3.ok⟩];unfold gL cF;rw[h3.is];exact hx
 ·cases hx
def fI (mh:AB) (cur:List (EK.C AR)) (args:List Value) (objs:List AK):GT:=
 match args,objs with
 | [.pointer (some ⟨9,0,none⟩),.slice (some ⟨14,0,some 0⟩) n1 k1,.slice (some ⟨15,0,some 0⟩) n2 k2],
  [.cells [.int .i64 c0,.int .i64 c1,.int .i64 c2,.int .i64 c3,.int .i64 c4,.int .i64 c5,.int .i64 c6,.int .i64 lim,.pointer (some ⟨10,0,none⟩),.pointer (some ⟨11,0,none⟩),.int .i64 cost,.slice (some ⟨12,0,some 0⟩) n3 k3,.pointer (some ⟨13,0,none⟩),.int .i64 sta,.bool pl] 0 _,
   .abs (.pack (.table bs)) _,.abs (.pack (.table nw)) _,.vec [.bool,.str,.str] AJ _,.cells [.bool del,.string uk,.string uv] 0 _,.vec [.str] ks _,.vec [.str] vs _]=>
  .ask ((n1=ks.length/\k1=AF)/\(n2=vs.length/\k2=AF)/\(n3=AJ.length/\k3=AF)/\⟨[c0,c1,c2,c3,c4,c5,c6],lim,bs,nw,cost,AJ,sta,pl⟩=mh/\jn mh del uk uv ks vs cur)
   (.ret ⟨.int .i64 0,[some (.abs (.pack (.model (mO mh cur))) false),none,none,none,some (II del uk uv)],[]⟩)
 | _,_=> .fail
theorem Y6 {mh:AB} {cur:List (EK.C AR)} (args:List Value) (objs:List AK) (x:IL) (hx:(fI mh cur args objs).run=some x):(Yw args objs).run=some x:=by
 unfold fI at hx;split at hx
 ·obtain⟨⟨h1,h2,h3,rfl,h4⟩,De⟩:=F3 hx;clear hx;have hx:=De;show(GT.ask _ _).run=some x;rw[EP ⟨h1,h2,h3,h4.ok⟩,C7 (c:=true) (by rw[h4.is];rfl),cond_true,h4.is];exact hx
 ·cases hx
abbrev ia (mh:AB) (cur:List (EK.C AR)):EB:=Zp (BU AL 9 [true] (eM cur)) (BU AL 9 Dk (fI mh cur))
theorem bm {X:Ctx} {f:FuncId} {mh:AB} {cur:List (EK.C AR)} (hX:X.Ep f=some bc) (args:List Value) (H:AA) (K:Value->AA->Prop) (h:ia mh cur args H K):∃v H',Bd X f args .normal H=some (v,H')/\K v H':=
 UE hX (Mt fun a o x h=>cY a o x h) (Mt fun a o x h=>Y6 a o x h) args H K h
def ew (mh:AB) (args:List Value) (objs:List AK):GT:=
 match args,objs with
 | [.pointer (some ⟨9,0,none⟩),.slice (some ⟨14,0,some 0⟩) n1 k1,.slice (some ⟨15,0,some 0⟩) n2 k2],
  [.cells [.int .i64 c0,.int .i64 c1,.int .i64 c2,.int .i64 c3,.int .i64 c4,.int .i64 c5,.int .i64 c6,.int .i64 lim,.pointer (some ⟨10,0,none⟩),.pointer (some ⟨11,0,none⟩),.int .i64 cost,.slice (some ⟨12,0,some 0⟩) n3 k3,.pointer (some ⟨13,0,none⟩),.int .i64 sta,.bool pl] 0 _,
   .abs (.pack (.table bs)) _,.abs (.pack (.table nw)) _,.vec [.bool,.str,.str] AJ _,.cells [.bool del,.string uk,.string uv] 0 _,.vec [.str] ks _,.vec [.str] vs _]=>
  .ask ((n1=ks.length/\k1=AF)/\(n2=vs.length/\k2=AF)/\(n3=AJ.length/\k3=AF)/\⟨[c0,c1,c2,c3,c4,c5,c6],lim,bs,nw,cost,AJ,sta,pl⟩=mh/\Zd mh del uk uv ks vs)
   (.test (Xq mh del uk uv ks vs).isSome
    (.ret ⟨.int .i64 0,[some (.abs (.pack (.model (mO mh ((Xq mh del uk uv ks vs).getD [])))) false),none,none,none,some (II del uk uv)],[]⟩)
    (.ret ⟨.int .i64 7,[some (gO c0 c1 c2 c3 c4 c5 c6 lim 10 11 cost 12 n3 k3 13 sta pl),some (Bi bs),some (Bi nw),some (.vec BL AJ false),some (II del uk uv)],[]⟩))
 | _,_=> .fail
theorem bP {mh:AB} (args:List Value) (objs:List AK) (x:IL) (hx:(ew mh args objs).run=some x):(Yw args objs).run=some x:=by
 unfold ew at hx;split at hx
 ·obtain⟨⟨h1,h2,⟨rfl,rfl⟩,rfl,h4⟩,De⟩:=F3 hx;clear hx;exact(EP ⟨h1,h2,⟨rfl,rfl⟩,h4⟩).trans De
 ·cases hx
abbrev bw (mh:AB):EB:=Zp (BU AL 9 [true] iW) (BU AL 9 Dk (ew mh))
theorem aW {X:Ctx} {f:FuncId} {mh:AB} (hX:X.Ep f=some bc) (args:List Value) (H:AA) (K:Value->AA->Prop) (h:bw mh args H K):∃v H',Bd X f args .normal H=some (v,H')/\K v H':=
 UE hX (fun _ _ _ h=>DA h) (Mt fun a o x h=>bP a o x h) args H K h
def ZE (n:Nat) (p q:EB):EB:=fun args H K=>bif Nat.beq H.next n then p args H K else q args H K
theorem ZR {X:Ctx} {f:FuncId} {n:Nat} {p q:EB} (hp:∀(args:List Value) (H:AA) (K:Value->AA->Prop),p args H K->∃v H',Bd X f args .normal H=some (v,H')/\K v H')
 (hq:∀(args:List Value) (H:AA) (K:Value->AA->Prop),q args H K->∃v H',Bd X f args .normal H=some (v,H')/\K v H') (args:List Value) (H:AA) (K:Value->AA->Prop) (h:ZE n p q args H K):∃v H',Bd X f args .normal H=some (v,H')/\K v H':=by
 unfold ZE at h;cases hb:Nat.beq H.next n<;>rw[hb]at h
 ·exact hq args H K h
 ·exact hp args H K h
def bE (H:AA) (a y z:Nat) (L:List (List (EK.C AR))) (l:List (EK.C AR)):AA:=
 ((((H.del a).alloc (.abs (.mem AR (L.map some++[none])) false)).del z).put H.next (.abs (.mem AR ((L++[l]).map some)) false)).put y (.vec [.tok] (AP H.next (L++[l])) false)
theorem c7 (H:AA) (a y z:Nat) (L:List (List (EK.C AR))) (l:List (EK.C AR)):(H.freeze a z AR (L.map some) l).put y (.vec [.tok] (AP H.next (L++[l])++[]) false)=bE H a y z L l:=by
 unfold bE AA.freeze;rw[List.append_nil,List.map_append];rfl
theorem BC.frozen {X:Ctx} {N:Nat} {Φ:A8->Prop} {fn:FuncId} {t:Tr Value} {n:Nat} {todo:List CN} {ds:List Deferred} {r:Bool} {kd:CallKind} {rd:Option Nat} {cs:List Ah} {H:AA} (i j:Nat) {a y z m1 c1 m2 c2:Nat} {L:List (List (EK.C AR))} {l:List (EK.C AR)}
 (hd:Cu todo=true) (hds:(cs.all fun f=>Cu f.todo)=true) (hi:look t i= .slice (some ⟨y,0,some 0⟩) m1 c1) (hj:look t j= .slice (some ⟨z,0,some 0⟩) m2 c2) (hra:a∈Am H 0 200 [y] []) (ha:H.get a=some (.abs (.mem AR (L.map some)) false))
 (hy:H.get y=some (.vec [.tok] (HE a z L l.length []) false)) (hz:H.get z=some (.vec AR l false))
 (h:BC X N ⟨⟨fn,t,n,todo,ds,r,kd,rd⟩,cs,bE H a y z L l⟩ Φ):BC X N ⟨⟨fn,t,n,todo,ds,r,kd,rd⟩,cs,H⟩ Φ:=by
 intro base W0 hb0 hok hplan cs0 μ fr cs' W hm;obtain⟨hH,hlaid,g,gs,hfr,hcs,hnd⟩:=hm;cases hfr with
 | plain fn t n tm todo todo' ds ds' r kd rd rd' ht hi2 hd2 hr=>
  have hy2:=ht.2 i;rw[hi]at hy2;have hz2:=ht.2 j;rw[hj]at hz2;have hr2:=FA hH (N:=0) 200 [y] [] (fun x hx=>by
   rw[List.mem_singleton]at hx;subst hx
   exact JS hy2) ⟨List.nodup_nil,fun b hb=>by cases hb⟩
  obtain⟨T,hT⟩:=(hr2.2 a hra).2;obtain⟨M,hM⟩:=JS hz2;obtain⟨T2,h2⟩:=hH.O9 (r:=[]) ha hT hy hz hM;have hle:=Ai.DU (μ:=μ) T2 (hH.fresh _ (Nat.le_refl _)).2;rw[c7]at h2;have hcs2:=Kv (ks:=[]) (H':=bE H a y z L l) hcs hds;have e:cs.map (Jv [])=cs:=by
   refine(List.map_congr_left fun f _=>?_).trans (List.map_id _);cases f;rfl
  rw[e]at hcs2;exact h base W0 hb0 hok hplan cs0 _ _ cs' W ⟨h2,hlaid.mono hle,[],[],.plain fn t n tm todo todo' ds ds' _ kd rd rd' (ht.mono hle) (hi2.mono hle) (hd2.mono hle) (hr.mono hle),hcs2.mono ⟨hle,Nat.le_refl _,fun b hb=>by cases hb⟩,by simp⟩
 | drawn fn t n tm ops Bu idx D G k k' ds ds' kd rd rd' hD hk2 hd2 hr2=>cases hd
abbrev iI:List (FuncId × Cn):=[(Iy,Tz WV),(Bc,Al AL 9 [] UN),(AO,Al AL 9 [true,true,true] UM),(BE,qOp.F),(AX,Al AL 9 Dk fP),(BO,Al AL 9 Dk (SR Mw.G (KZ Yt))),
 (Aj,Al AL 9 Dk (SR Ia (KZ Wq))),(AD,bc),(Ay,KS (Al AL 9 [] Hg)),(Ag,Al AL 9 [true] cM),(Ax,Al AL 9 [] Uf),(Au,KS (Al AL 9 [] Jb)),(CH,Al AL 9 [true] C9.G),(Bo,Al AL 9 [true] ET.G),(An,KS (Al AL 9 [] Jj))]
def E0:Ctx:=Cx Tryz.prog AL iI
def gK:Pf:=fun g=>bif Nat.beq g Bc then some (BU AL 9 [] UN)else bif Nat.beq g AO then some (BU AL 9 [true,true,true] UM)else bif Nat.beq g BE then some (fun _ _ _=>False)else C4 g
def M5 (w:Nat) (x:Value) (cur:List (EK.C AR)) (k:Int) (s v:ByteArray):Pf:=fun g=>bif Nat.beq g BE then some (Z5 k s v)else bif Nat.beq g AX then some (jC w)else bif Nat.beq g BO then some fw else
 bif Nat.beq g An then some (Iq x (Te (BU AL 9 [] Jj) cur))else bif Nat.beq g Au then some (Sg (BU AL 9 [] Jb))else bif Nat.beq g AO then some (fun _ _ _=>False)else C4 g
def cq (t:Tr Value) (p:List Nat) (q:List Nat) (b:Nat) (H:AA):A8:=
 ⟨⟨AE,t,272,[.code (BI Tryz.prog AE p),.inLoop (BI Tryz.prog AE p),.inBlock b,.code (BI Tryz.prog AE q)],[],false,.normal,none⟩,[],H⟩
def dK (la lb lc:Int):AK:= .cells [.int .u8 la,.int .u8 lb,.int .u8 lc] 0 false
def gp (l other:List (EK.C Bq)) (la lb lc:Int) (cfg:List Int) (len:Nat) (i:Int) (os:List AK):A8:=
 cq (Gr [(1,QW l.length),(3,CT 10 other.length),(6,DW 11),(9,DW 12),(10,.int .i64 i)]) [1,1,1,1,0,1,0,0] [1,1,1,1,1] 0 (EC (iJ l other) (dK la lb lc:: .cells (OE cfg 13 14 len) 0 false::os))
def LA (l other:List (EK.C Bq)) (la lb lc:Int) (cfg:List Int) (mk tk:Pk) (len:Nat) (i:Int):A8:=gp l other la lb lc cfg len i [.abs (.pack mk) false,.abs (.pack tk) false]
def Kc (l other:List (EK.C Bq)) (la lb lc:Int) (cfg:List Int) (mk:Pk) (L:List (List (EK.C AR))) (row:List (EK.C [.tok])) (len:Nat) (i:Int):A8:=gp l other la lb lc cfg len i [.abs (.pack mk) false,.vec [.tok] row false,.abs (.mem AR (L.map some)) false]
def kN:List Nat:=[1,1,1,1,1,1,1,1,1,1,1,1,1,1,1,0,1,0,0]
def kZ:List Nat:=[1,1,1,1,1,1,1,1,1,1,1,1,1,1,1,1]
def fV (ex:List (Nat × Value)) (l other:List (EK.C Bq)) (la lb lc:Int) (cfg:List Int) (len:Nat) (pv:Value) (i:Int) (os:List AK):A8:=
 cq (Gr ([(3,CT 10 other.length),(9,DW 12),(12,pv),(16,.slice none 0 0),(17,.int .i64 i)]++ex)) kN kZ 2 (EC (iJ l other) (dK la lb lc:: .cells (OE cfg 13 14 len) 0 false::os))
def dV (l other:List (EK.C Bq)) (la lb lc:Int) (cfg:List Int) (mk:Pk) (L:List (List (EK.C AR))) (row prow:List (EK.C [.tok])) (len:Nat) (pv:Value) (i:Int):A8:=
 fV [] l other la lb lc cfg len pv i [.abs (.pack mk) false,.vec [.tok] row false,.abs (.mem AR (L.map some)) false,.vec [.tok] prow false]
def gj (l other:List (EK.C Bq)) (la lb lc:Int) (cfg:List Int) (mk:Pk) (L:List (List (EK.C AR))) (row prow:List (EK.C [.tok])) (z:List (EK.C AR)) (len:Nat) (pv zv:Value) (i:Int):A8:=
 fV [(124,zv)] l other la lb lc cfg len pv i [.abs (.pack mk) false,.vec [.tok] row false,.abs (.mem AR (L.map some)) false,.vec [.tok] prow false,.vec AR z false]
def eP (l other:List (EK.C Bq)) (la lb lc:Int) (cfg:List Int) (m:AB) (del:Bool) (uk uv:ByteArray) (L:List (List (EK.C AR))) (row prow:List (EK.C [.tok])) (z:List (EK.C AR)) (len:Nat) (pv zv:Value) (i:Int):A8:=
 fV [(124,zv)] l other la lb lc cfg len pv i [KI m 18 19 20 21,.vec [.tok] row false,.abs (.mem AR (L.map some)) false,.vec [.tok] prow false,.vec AR z false,Bi m.base,Bi m.now,.vec BL m.AJ false,II del uk uv]
def Qf:Stop:=⟨AE,0,3,11,[9,10],[1,3,6,9,10]⟩
def Lv:Stop:=⟨AE,0,3,16,[9,10,11,12,13,14,15],[3,9,12,16,17]⟩
def IH:Stop:=⟨AE,0,3,16,[9,10,11,12,13,14,15],[3,9,12,16,17,124]⟩
def Fp (n:Nat) (cur:List (EK.C AR)):Value:= .slice (some ⟨15,1,some n⟩) cur.length AF
def HT (ids:List Nat) (L:List (List (EK.C AR))):List (EK.C [.tok]):=List.map (IM (Gx 16 ids)) (AP 15 L)
def RB (ids:List Nat) (z n:Nat) (L:List (List (EK.C AR))) (w:List (EK.C AR)):List (EK.C [.tok]):=List.map (IM (Gx 16 ids)) (List.take (0+Nat.succ n) (List.drop 0 (List.take (Nat.succ n) (List.drop 0 (AP 15 L))))++[Value.slice (some ⟨z,0,some 0⟩) w.length AF])
def Rt (ids:List Nat) (n:Nat) (L:List (List (EK.C AR))):List (EK.C [.tok]):=List.map (IM (Gx 16 ids)) (List.take (Nat.succ n) (List.drop 0 (AP 15 L)))
theorem dy (l other:List (EK.C Bq)) (slots la lb lc:Int) (Q:Value->List (Option AK)->Prop) (R R2:A8->Prop):SQ E0 gK AE [] Qf 0 Qf 2 [] Q R R2 400 (st AE 272 [.int .u8 slots,QW l.length,.agg ⟨[.int .u8 la,.int .u8 lb,.int .u8 lc]⟩,CT 10 other.length] (iJ l other))=(
 (bif decide (Int.ofNat (List.length l) > 60)then(Q (.bool true) [])else(bif decide (Int.ofNat (List.length other) > 20)then(Q (.bool true) [])else(DJ slots)/\(R (LA l other la lb lc (Cg (Int.tmod slots 8)) (Pk.model (m0 (Int.tmod slots 8))) (Pk.Co [[]]) 1 0))))):=by kernel_rfl
theorem eG (l other:List (EK.C Bq)) (la lb lc:Int) (cfg:List Int) (m:AB) (L:List (List (EK.C AR))) (i:Int) (Q:Value->List (Option AK)->Prop) (R R2:A8->Prop):SQ E0 gK AE [] Qf 0 Qf 2 [] Q R R2 600 (LA l other la lb lc cfg (.model m) (.Co L) L.length i)=(
 (bif decide (i < Int.ofNat (List.length l))then(bif decide (0<=i)&&Nat.blt (Int.toNat i) (List.length l)then(bif Nat.blt (0+Int.toNat i) (List.length l)then((List.length L=List.length L/\AF=AF)/\S5 [List.getD cfg 0 0,List.getD cfg 1 0,List.getD cfg 2 0,List.getD cfg 3 0,List.getD cfg 4 0,List.getD cfg 5 0,List.getD cfg 6 0] m L (Prod.fst (List.getD l (0+Int.toNat i) (EK.AZ Bq))) (Prod.fst (Prod.snd (List.getD l (0+Int.toNat i) (EK.AZ Bq)))) (Prod.snd (Prod.snd (List.getD l (0+Int.toNat i) (EK.AZ Bq)))))/\(bif Rm [List.getD cfg 0 0,List.getD cfg 1 0,List.getD cfg 2 0,List.getD cfg 3 0,List.getD cfg 4 0,List.getD cfg 5 0,List.getD cfg 6 0] (A3 L) (Prod.fst (List.getD l (0+Int.toNat i) (EK.AZ Bq))) (Prod.fst (Prod.snd (List.getD l (0+Int.toNat i) (EK.AZ Bq)))) (Prod.snd (Prod.snd (List.getD l (0+Int.toNat i) (EK.AZ Bq))))then(R (LA l other la lb lc cfg (Pk.model (dI [List.getD cfg 0 0,List.getD cfg 1 0,List.getD cfg 2 0,List.getD cfg 3 0,List.getD cfg 4 0,List.getD cfg 5 0,List.getD cfg 6 0] m (A3 L) (Prod.fst (List.getD l (0+Int.toNat i) (EK.AZ Bq))) (Prod.fst (Prod.snd (List.getD l (0+Int.toNat i) (EK.AZ Bq)))) (Prod.snd (Prod.snd (List.getD l (0+Int.toNat i) (EK.AZ Bq)))))) (Pk.Co L) (List.length L) (IntKind.wrap .i64 (i+1))))else(R (LA l other la lb lc cfg (Pk.model (dI [List.getD cfg 0 0,List.getD cfg 1 0,List.getD cfg 2 0,List.getD cfg 3 0,List.getD cfg 4 0,List.getD cfg 5 0,List.getD cfg 6 0] m (A3 L) (Prod.fst (List.getD l (0+Int.toNat i) (EK.AZ Bq))) (Prod.fst (Prod.snd (List.getD l (0+Int.toNat i) (EK.AZ Bq)))) (Prod.snd (Prod.snd (List.getD l (0+Int.toNat i) (EK.AZ Bq)))))) (Pk.Co (Gg [List.getD cfg 0 0,List.getD cfg 1 0,List.getD cfg 2 0,List.getD cfg 3 0,List.getD cfg 4 0,List.getD cfg 5 0,List.getD cfg 6 0] L (Prod.fst (List.getD l (0+Int.toNat i) (EK.AZ Bq))) (Prod.fst (Prod.snd (List.getD l (0+Int.toNat i) (EK.AZ Bq)))) (Prod.snd (Prod.snd (List.getD l (0+Int.toNat i) (EK.AZ Bq)))))) (List.length (Gg [List.getD cfg 0 0,List.getD cfg 1 0,List.getD cfg 2 0,List.getD cfg 3 0,List.getD cfg 4 0,List.getD cfg 5 0,List.getD cfg 6 0] L (Prod.fst (List.getD l (0+Int.toNat i) (EK.AZ Bq))) (Prod.fst (Prod.snd (List.getD l (0+Int.toNat i) (EK.AZ Bq)))) (Prod.snd (Prod.snd (List.getD l (0+Int.toNat i) (EK.AZ Bq)))))) (IntKind.wrap .i64 (i+1)))))else False)else False)else False)):=by kernel_rfl
theorem cD (l other:List (EK.C Bq)) (la lb lc:Int) (cfg:List Int) (m:AB) (L:List (List (EK.C AR))) (n:Nat) (cur:List (EK.C AR)) (s v:ByteArray) (i:Int) (Q:Value->List (Option AK)->Prop) (R R2:A8->Prop):SQ E0 (M5 1 (Fp n cur) cur 4 s v) AE [] Lv 2 Lv 0 [] Q R R2 900 (Kc l other la lb lc cfg (.model (At m 0 false)) L (AP 15 L) (Nat.succ n) i)=(
 (bif decide (i < Int.ofNat (List.length l))then(bif decide (0<=i)&&Nat.blt (Int.toNat i) (List.length l)then(bif Nat.blt (0+Int.toNat i) (List.length l)then False else False)else False)else((DJ la/\DJ lb/\DJ lc)/\aK la=4/\aS la lb=s/\aV la lc=v)/\(bif List.all (A2 [SK.tok] (List.take (Nat.succ n) (List.drop 0 (AP 15 L)))) Bh then(bif Nat.ble (0+Nat.succ n) (List.length (AP 15 L))then(bif BK 24 (0+Nat.succ n)then(ZU (At m 0 false) 7 5 0 e_ { data:=#[48] } 0 e_)/\(dj 1 (At (At m 0 false) 0 true) 4 0 0 s v 13 e_)/\(YX (At (At (At m 0 false) 0 true) 1 false) 5 0 0 e_ e_ 0 e_)/\(YX (At (At (At m 0 false) 0 true) 1 false) 8 0 0 e_ e_ 0 e_)/\(R (dV l other la lb lc cfg (Pk.model (At m 2 false)) L (HT [18] L) (Rt [18] n L) (Nat.succ n) (.slice (some ⟨16,0,(some 0)⟩) (0+Nat.succ n) 18446744073709551616) 0))else False)else False)else False))):=by kernel_rfl
theorem Zn (l other:List (EK.C Bq)) (la lb lc:Int) (cfg:List Int) (m:AB) (L:List (List (EK.C AR))) (n:Nat) (cur:List (EK.C AR)) (s v:ByteArray) (i:Int) (Q:Value->List (Option AK)->Prop) (R R2:A8->Prop):SQ E0 (M5 0 (Fp n cur) cur 2 s v) AE [] Lv 2 Lv 0 [] Q R R2 900 (Kc l other la lb lc cfg (.model (At m 0 false)) L (AP 15 L) (Nat.succ n) i)=(
 (bif decide (i < Int.ofNat (List.length l))then(bif decide (0<=i)&&Nat.blt (Int.toNat i) (List.length l)then(bif Nat.blt (0+Int.toNat i) (List.length l)then False else False)else False)else((DJ la/\DJ lb/\DJ lc)/\aK la=2/\aS la lb=s/\aV la lc=v)/\(bif List.all (A2 [SK.tok] (List.take (Nat.succ n) (List.drop 0 (AP 15 L)))) Bh then(bif Nat.ble (0+Nat.succ n) (List.length (AP 15 L))then(bif BK 24 (0+Nat.succ n)then(ZU (At m 0 false) 7 5 0 e_ { data:=#[48] } 0 e_)/\(dj 0 (At (At m 0 false) 0 true) 2 0 0 s v 13 e_)/\(ZU (At (At m 0 false) 0 true) 7 0 0 e_ { data:=#[48] } 0 e_)/\(YX (At (At (At m 0 false) 0 true) 1 false) 5 0 0 e_ e_ 0 e_)/\(YX (At (At (At m 0 false) 0 true) 1 false) 8 0 0 e_ e_ 0 e_)/\(R (dV l other la lb lc cfg (Pk.model (At m 2 false)) L (HT [18] L) (Rt [18] n L) (Nat.succ n) (.slice (some ⟨16,0,(some 0)⟩) (0+Nat.succ n) 18446744073709551616) 0))else False)else False)else False))):=by kernel_rfl
theorem YI (l other:List (EK.C Bq)) (la lb lc:Int) (cfg:List Int) (m:AB) (L:List (List (EK.C AR))) (n:Nat) (cur:List (EK.C AR)) (s v:ByteArray) (i:Int) (Q:Value->List (Option AK)->Prop) (R R2:A8->Prop):SQ E0 (M5 0 (Fp n cur) cur 1 s v) AE [] Lv 2 Lv 0 [] Q R R2 900 (Kc l other la lb lc cfg (.model (At m 0 false)) L (AP 15 L) (Nat.succ n) i)=(
 (bif decide (i < Int.ofNat (List.length l))then(bif decide (0<=i)&&Nat.blt (Int.toNat i) (List.length l)then(bif Nat.blt (0+Int.toNat i) (List.length l)then False else False)else False)else((DJ la/\DJ lb/\DJ lc)/\aK la=1/\aS la lb=s/\aV la lc=v)/\(bif List.all (A2 [SK.tok] (List.take (Nat.succ n) (List.drop 0 (AP 15 L)))) Bh then(bif Nat.ble (0+Nat.succ n) (List.length (AP 15 L))then(bif BK 24 (0+Nat.succ n)then(ZU (At m 0 false) 7 5 0 e_ { data:=#[48] } 0 e_)/\(dj 0 (At (At m 0 false) 0 true) 1 0 0 s v 13 e_)/\(bif decide (0<=IntKind.wrap .i64 (Int.ofNat (Nat.succ n) - 1))&&Nat.blt (Int.toNat (IntKind.wrap .i64 (Int.ofNat (Nat.succ n) - 1))) (Nat.succ n)then(bif Nat.blt (0+Int.toNat (IntKind.wrap .i64 (Int.ofNat (Nat.succ n) - 1))) (List.length (AP 15 L))&&Ek (SK.enc SK.tok (List.getD (AP 15 L) (0+Int.toNat (IntKind.wrap .i64 (Int.ofNat (Nat.succ n) - 1))) (EK.AZ [SK.tok])))then(p_ 12=p_ 12)/\(((.agg ⟨[(.int .i64 1),(.int .i64 0),(.int .i64 0),(.string s),(.string v)]⟩):Value)=(.agg ⟨[(.int .i64 1),(.int .i64 0),(.int .i64 0),(.string s),(.string v)]⟩))/\(((.slice (Cz (SK.enc SK.tok (List.getD (AP 15 L) (0+Int.toNat (IntKind.wrap .i64 (Int.ofNat (Nat.succ n) - 1))) (EK.AZ [SK.tok])))) (Cy (SK.enc SK.tok (List.getD (AP 15 L) (0+Int.toNat (IntKind.wrap .i64 (Int.ofNat (Nat.succ n) - 1))) (EK.AZ [SK.tok])))) (C0 (SK.enc SK.tok (List.getD (AP 15 L) (0+Int.toNat (IntKind.wrap .i64 (Int.ofNat (Nat.succ n) - 1))) (EK.AZ [SK.tok]))))):Value)=(.slice (some ⟨15,1,(some n)⟩) (List.length cur) 18446744073709551616))/\(Du (List.map some L) n cur)/\((List.length cur=List.length cur/\AF=AF)/\List.length cur < 400000)/\(Ca cur cur (List.map some L) (List.set (List.map some L) n none) n)/\(p_ 12=p_ 12)/\((List.length (Ar cur 1 s v)=List.length (Ar cur 1 s v)/\AF=AF)/\Dz (Ar cur 1 s v))/\(p_ 12=p_ 12)/\(bif decide (BG (Ar cur 1 s v) > IntKind.wrap .i64 (Int.tdiv (IntKind.wrap .i64 (IntKind.wrap .i64 (IntKind.wrap .i64 (List.getD cfg 0 0 - List.getD cfg 2 0) - 2) * 84)) 2))then(ZU (At (At m 0 false) 0 true) 7 0 0 e_ { data:=#[48] } 0 e_)/\(YX (At (At (At m 0 false) 0 true) 1 false) 5 0 0 e_ e_ 0 e_)/\(YX (At (At (At m 0 false) 0 true) 1 false) 8 0 0 e_ e_ 0 e_)/\(R (dV l other la lb lc cfg (Pk.model (At m 2 false)) L (HT [18] L) (Rt [18] n L) (Nat.succ n) (.slice (some ⟨16,0,(some 0)⟩) (0+Nat.succ n) 18446744073709551616) 0))else(Q (.bool false) []))else False)else False)else False)else False)else False))):=by kernel_rfl
theorem X7 (l other:List (EK.C Bq)) (la lb lc:Int) (cfg:List Int) (m:AB) (L:List (List (EK.C AR))) (n:Nat) (cur:List (EK.C AR)) (s v:ByteArray) (i:Int) (Q:Value->List (Option AK)->Prop) (R R2:A8->Prop):SQ E0 (M5 1 (Fp n cur) cur 3 s v) AE [] IH 2 IH 0 [] Q R R2 900 (Kc l other la lb lc cfg (.model (At m 0 false)) L (AP 15 L) (Nat.succ n) i)=(
 (bif decide (i < Int.ofNat (List.length l))then(bif decide (0<=i)&&Nat.blt (Int.toNat i) (List.length l)then(bif Nat.blt (0+Int.toNat i) (List.length l)then False else False)else False)else((DJ la/\DJ lb/\DJ lc)/\aK la=3/\aS la lb=s/\aV la lc=v)/\(bif List.all (A2 [SK.tok] (List.take (Nat.succ n) (List.drop 0 (AP 15 L)))) Bh then(bif Nat.ble (0+Nat.succ n) (List.length (AP 15 L))then(bif BK 24 (0+Nat.succ n)then(ZU (At m 0 false) 7 5 0 e_ { data:=#[48] } 0 e_)/\(dj 1 (At (At m 0 false) 0 true) 3 0 0 s v 13 e_)/\(bif decide (0<=IntKind.wrap .i64 (Int.ofNat (Nat.succ n) - 1))&&Nat.blt (Int.toNat (IntKind.wrap .i64 (Int.ofNat (Nat.succ n) - 1))) (Nat.succ n)then(bif Nat.blt (0+Int.toNat (IntKind.wrap .i64 (Int.ofNat (Nat.succ n) - 1))) (List.length (AP 15 L))&&Ek (SK.enc SK.tok (List.getD (AP 15 L) (0+Int.toNat (IntKind.wrap .i64 (Int.ofNat (Nat.succ n) - 1))) (EK.AZ [SK.tok])))then(((.agg ⟨[(.int .i64 3),(.int .i64 0),(.int .i64 0),(.string s),(.string v)]⟩):Value)=(.agg ⟨[(.int .i64 3),(.int .i64 0),(.int .i64 0),(.string s),(.string v)]⟩))/\(((.slice (some ⟨18,0,(some 0)⟩) (0+Nat.succ n) 18446744073709551616):Value)=(.slice (some ⟨18,0,(some 0)⟩) (0+Nat.succ n) 18446744073709551616))/\(((.slice (Cz (SK.enc SK.tok (List.getD (AP 15 L) (0+Int.toNat (IntKind.wrap .i64 (Int.ofNat (Nat.succ n) - 1))) (EK.AZ [SK.tok])))) (Cy (SK.enc SK.tok (List.getD (AP 15 L) (0+Int.toNat (IntKind.wrap .i64 (Int.ofNat (Nat.succ n) - 1))) (EK.AZ [SK.tok])))) (C0 (SK.enc SK.tok (List.getD (AP 15 L) (0+Int.toNat (IntKind.wrap .i64 (Int.ofNat (Nat.succ n) - 1))) (EK.AZ [SK.tok]))))):Value)=(.slice (some ⟨15,1,(some n)⟩) (List.length cur) 18446744073709551616))/\(Du (List.map some L) n cur)/\((List.length cur=List.length cur/\AF=AF)/\List.length cur < 400000)/\(Ca cur cur (List.map some L) (List.set (List.map some L) n none) n)/\(((.slice (some ⟨18,0,(some 0)⟩) (0+Nat.succ n) 18446744073709551616):Value)=(.slice (some ⟨18,0,(some 0)⟩) (0+Nat.succ n) 18446744073709551616))/\(bif true&&Nat.ble (0+(0+Nat.succ n)) (List.length ([]++List.take (Nat.succ n) (List.drop 0 (AP 15 L))))&&BK 24 (0+Nat.succ n+1)then(YX (At (At (At m 0 false) 0 true) 1 false) 5 0 0 e_ e_ 0 e_)/\(YX (At (At (At m 0 false) 0 true) 1 false) 8 0 0 e_ e_ 0 e_)/\(R (gj l other la lb lc cfg (Pk.model (At m 2 false)) L (HT [23,21] L) (RB [23,21] 21 n L (Ar cur 3 s v)) (Ar cur 3 s v) (Nat.succ n) (.slice (some ⟨16,0,(some 0)⟩) (0+Nat.succ n+1) 18446744073709551616) (.slice (some ⟨17,0,(some 0)⟩) (List.length (Ar cur 3 s v)) 18446744073709551616) 0))else False)else False)else False)else False)else False)else False))):=by kernel_rfl
theorem ZZ (l other:List (EK.C Bq)) (la lb lc:Int) (cfg:List Int) (m:AB) (L:List (List (EK.C AR))) (n:Nat) (cur:List (EK.C AR)) (s v:ByteArray) (i:Int) (Q:Value->List (Option AK)->Prop) (R R2:A8->Prop):SQ E0 (M5 2 (Fp n cur) cur 1 s v) AE [] IH 2 IH 0 [] Q R R2 900 (Kc l other la lb lc cfg (.model (At m 0 false)) L (AP 15 L) (Nat.succ n) i)=(
 (bif decide (i < Int.ofNat (List.length l))then(bif decide (0<=i)&&Nat.blt (Int.toNat i) (List.length l)then(bif Nat.blt (0+Int.toNat i) (List.length l)then False else False)else False)else((DJ la/\DJ lb/\DJ lc)/\aK la=1/\aS la lb=s/\aV la lc=v)/\(bif List.all (A2 [SK.tok] (List.take (Nat.succ n) (List.drop 0 (AP 15 L)))) Bh then(bif Nat.ble (0+Nat.succ n) (List.length (AP 15 L))then(bif BK 24 (0+Nat.succ n)then(ZU (At m 0 false) 7 5 0 e_ { data:=#[48] } 0 e_)/\(dj 2 (At (At m 0 false) 0 true) 1 0 0 s v 13 e_)/\(bif decide (0<=IntKind.wrap .i64 (Int.ofNat (Nat.succ n) - 1))&&Nat.blt (Int.toNat (IntKind.wrap .i64 (Int.ofNat (Nat.succ n) - 1))) (Nat.succ n)then(bif Nat.blt (0+Int.toNat (IntKind.wrap .i64 (Int.ofNat (Nat.succ n) - 1))) (List.length (AP 15 L))&&Ek (SK.enc SK.tok (List.getD (AP 15 L) (0+Int.toNat (IntKind.wrap .i64 (Int.ofNat (Nat.succ n) - 1))) (EK.AZ [SK.tok])))then(p_ 12=p_ 12)/\(((.agg ⟨[(.int .i64 1),(.int .i64 0),(.int .i64 0),(.string s),(.string v)]⟩):Value)=(.agg ⟨[(.int .i64 1),(.int .i64 0),(.int .i64 0),(.string s),(.string v)]⟩))/\(((.slice (Cz (SK.enc SK.tok (List.getD (AP 15 L) (0+Int.toNat (IntKind.wrap .i64 (Int.ofNat (Nat.succ n) - 1))) (EK.AZ [SK.tok])))) (Cy (SK.enc SK.tok (List.getD (AP 15 L) (0+Int.toNat (IntKind.wrap .i64 (Int.ofNat (Nat.succ n) - 1))) (EK.AZ [SK.tok])))) (C0 (SK.enc SK.tok (List.getD (AP 15 L) (0+Int.toNat (IntKind.wrap .i64 (Int.ofNat (Nat.succ n) - 1))) (EK.AZ [SK.tok]))))):Value)=(.slice (some ⟨15,1,(some n)⟩) (List.length cur) 18446744073709551616))/\(Du (List.map some L) n cur)/\((List.length cur=List.length cur/\AF=AF)/\List.length cur < 400000)/\(Ca cur cur (List.map some L) (List.set (List.map some L) n none) n)/\(p_ 12=p_ 12)/\((List.length (Ar cur 1 s v)=List.length (Ar cur 1 s v)/\AF=AF)/\Dz (Ar cur 1 s v))/\(p_ 12=p_ 12)/\(bif decide (BG (Ar cur 1 s v) > IntKind.wrap .i64 (Int.tdiv (IntKind.wrap .i64 (IntKind.wrap .i64 (IntKind.wrap .i64 (List.getD cfg 0 0 - List.getD cfg 2 0) - 2) * 84)) 2))then(Q (.bool false) [])else(bif decide (0<=IntKind.wrap .i64 (Int.ofNat (Nat.succ n) - 1))&&Nat.blt (Int.toNat (IntKind.wrap .i64 (Int.ofNat (Nat.succ n) - 1))) (Nat.succ n)then(bif Nat.blt (0+Int.toNat (IntKind.wrap .i64 (Int.ofNat (Nat.succ n) - 1))) (List.length (AP 15 L))&&Ek (SK.enc SK.tok (List.getD (AP 15 L) (0+Int.toNat (IntKind.wrap .i64 (Int.ofNat (Nat.succ n) - 1))) (EK.AZ [SK.tok])))then(((.agg ⟨[(.int .i64 1),(.int .i64 0),(.int .i64 0),(.string s),(.string v)]⟩):Value)=(.agg ⟨[(.int .i64 1),(.int .i64 0),(.int .i64 0),(.string s),(.string v)]⟩))/\(((.slice (some ⟨18,0,(some 0)⟩) (0+Nat.succ n) 18446744073709551616):Value)=(.slice (some ⟨18,0,(some 0)⟩) (0+Nat.succ n) 18446744073709551616))/\(((.slice (Cz (SK.enc SK.tok (List.getD (AP 15 L) (0+Int.toNat (IntKind.wrap .i64 (Int.ofNat (Nat.succ n) - 1))) (EK.AZ [SK.tok])))) (Cy (SK.enc SK.tok (List.getD (AP 15 L) (0+Int.toNat (IntKind.wrap .i64 (Int.ofNat (Nat.succ n) - 1))) (EK.AZ [SK.tok])))) (C0 (SK.enc SK.tok (List.getD (AP 15 L) (0+Int.toNat (IntKind.wrap .i64 (Int.ofNat (Nat.succ n) - 1))) (EK.AZ [SK.tok]))))):Value)=(.slice (some ⟨15,1,(some n)⟩) (List.length cur) 18446744073709551616))/\(Du (List.map some L) n cur)/\((List.length cur=List.length cur/\AF=AF)/\List.length cur < 400000)/\(Ca cur cur (List.map some L) (List.set (List.map some L) n none) n)/\(((.slice (some ⟨18,0,(some 0)⟩) (0+Nat.succ n) 18446744073709551616):Value)=(.slice (some ⟨18,0,(some 0)⟩) (0+Nat.succ n) 18446744073709551616))/\
 (bif true&&Nat.ble (0+(0+Nat.succ n)) (List.length ([]++List.take (Nat.succ n) (List.drop 0 (AP 15 L))))&&BK 24 (0+Nat.succ n+1)then(List.length (AB.AJ (At (At (At m 0 false) 0 true) 1 false))=List.length (AB.AJ (At (At m 0 false) 0 true))/\AF=AF)/\((List.length (AB.AJ (At (At (At m 0 false) 0 true) 1 false))=List.length (AB.AJ (At (At m 0 false) 0 true))/\AF=AF)/\gg (AB.state (At (At (At m 0 false) 0 true) 1 false)) 5 0 0 e_ e_ 0 e_)/\((List.length (AB.AJ (At (At (At m 0 false) 0 true) 1 false))=List.length (AB.AJ (At (At m 0 false) 0 true))/\AF=AF)/\gg (AB.state (At (At (At m 0 false) 0 true) 1 false)) 8 0 0 e_ e_ 0 e_)/\(List.length (AB.AJ (At (At (At m 0 false) 0 true) 1 false))=List.length (AB.AJ (At (At m 0 false) 0 true))/\AF=AF)/\(R (eP l other la lb lc cfg (At m 2 false) false s v L (HT [29,27,20,21,22,23] L) (RB [29,27,20,21,22,23] 27 n L (Ar cur 1 s v)) (Ar cur 1 s v) (Nat.succ n) (.slice (some ⟨16,0,(some 0)⟩) (0+Nat.succ n+1) 18446744073709551616) (.slice (some ⟨17,0,(some 0)⟩) (List.length (Ar cur 1 s v)) 18446744073709551616) 0))else False)else False)else False))else False)else False)else False)else False)else False))):=by kernel_rfl
theorem ZI (l other:List (EK.C Bq)) (la lb lc:Int) (cfg:List Int) (m:AB) (L:List (List (EK.C AR))) (n:Nat) (cur:List (EK.C AR)) (s v:ByteArray) (i:Int) (Q:Value->List (Option AK)->Prop) (R R2:A8->Prop):SQ E0 (M5 2 (Fp n cur) cur 3 s v) AE [] IH 2 IH 0 [] Q R R2 900 (Kc l other la lb lc cfg (.model (At m 0 false)) L (AP 15 L) (Nat.succ n) i)=(
 (bif decide (i < Int.ofNat (List.length l))then(bif decide (0<=i)&&Nat.blt (Int.toNat i) (List.length l)then(bif Nat.blt (0+Int.toNat i) (List.length l)then False else False)else False)else((DJ la/\DJ lb/\DJ lc)/\aK la=3/\aS la lb=s/\aV la lc=v)/\(bif List.all (A2 [SK.tok] (List.take (Nat.succ n) (List.drop 0 (AP 15 L)))) Bh then(bif Nat.ble (0+Nat.succ n) (List.length (AP 15 L))then(bif BK 24 (0+Nat.succ n)then(ZU (At m 0 false) 7 5 0 e_ { data:=#[48] } 0 e_)/\(dj 2 (At (At m 0 false) 0 true) 3 0 0 s v 13 e_)/\(bif decide (0<=IntKind.wrap .i64 (Int.ofNat (Nat.succ n) - 1))&&Nat.blt (Int.toNat (IntKind.wrap .i64 (Int.ofNat (Nat.succ n) - 1))) (Nat.succ n)then(bif Nat.blt (0+Int.toNat (IntKind.wrap .i64 (Int.ofNat (Nat.succ n) - 1))) (List.length (AP 15 L))&&Ek (SK.enc SK.tok (List.getD (AP 15 L) (0+Int.toNat (IntKind.wrap .i64 (Int.ofNat (Nat.succ n) - 1))) (EK.AZ [SK.tok])))then(((.agg ⟨[(.int .i64 3),(.int .i64 0),(.int .i64 0),(.string s),(.string v)]⟩):Value)=(.agg ⟨[(.int .i64 3),(.int .i64 0),(.int .i64 0),(.string s),(.string v)]⟩))/\(((.slice (some ⟨18,0,(some 0)⟩) (0+Nat.succ n) 18446744073709551616):Value)=(.slice (some ⟨18,0,(some 0)⟩) (0+Nat.succ n) 18446744073709551616))/\(((.slice (Cz (SK.enc SK.tok (List.getD (AP 15 L) (0+Int.toNat (IntKind.wrap .i64 (Int.ofNat (Nat.succ n) - 1))) (EK.AZ [SK.tok])))) (Cy (SK.enc SK.tok (List.getD (AP 15 L) (0+Int.toNat (IntKind.wrap .i64 (Int.ofNat (Nat.succ n) - 1))) (EK.AZ [SK.tok])))) (C0 (SK.enc SK.tok (List.getD (AP 15 L) (0+Int.toNat (IntKind.wrap .i64 (Int.ofNat (Nat.succ n) - 1))) (EK.AZ [SK.tok]))))):Value)=(.slice (some ⟨15,1,(some n)⟩) (List.length cur) 18446744073709551616))/\(Du (List.map some L) n cur)/\((List.length cur=List.length cur/\AF=AF)/\List.length cur < 400000)/\(Ca cur cur (List.map some L) (List.set (List.map some L) n none) n)/\(((.slice (some ⟨18,0,(some 0)⟩) (0+Nat.succ n) 18446744073709551616):Value)=(.slice (some ⟨18,0,(some 0)⟩) (0+Nat.succ n) 18446744073709551616))/\(bif true&&Nat.ble (0+(0+Nat.succ n)) (List.length ([]++List.take (Nat.succ n) (List.drop 0 (AP 15 L))))&&BK 24 (0+Nat.succ n+1)then(List.length (AB.AJ (At (At (At m 0 false) 0 true) 1 false))=List.length (AB.AJ (At (At m 0 false) 0 true))/\AF=AF)/\((List.length (AB.AJ (At (At (At m 0 false) 0 true) 1 false))=List.length (AB.AJ (At (At m 0 false) 0 true))/\AF=AF)/\gg (AB.state (At (At (At m 0 false) 0 true) 1 false)) 5 0 0 e_ e_ 0 e_)/\((List.length (AB.AJ (At (At (At m 0 false) 0 true) 1 false))=List.length (AB.AJ (At (At m 0 false) 0 true))/\AF=AF)/\gg (AB.state (At (At (At m 0 false) 0 true) 1 false)) 8 0 0 e_ e_ 0 e_)/\(List.length (AB.AJ (At (At (At m 0 false) 0 true) 1 false))=List.length (AB.AJ (At (At m 0 false) 0 true))/\AF=AF)/\(R (eP l other la lb lc cfg (At m 2 false) true s v L (HT [27,25,20,21,22,23] L) (RB [27,25,20,21,22,23] 25 n L (Ar cur 3 s v)) (Ar cur 3 s v) (Nat.succ n) (.slice (some ⟨16,0,(some 0)⟩) (0+Nat.succ n+1) 18446744073709551616) (.slice (some ⟨17,0,(some 0)⟩) (List.length (Ar cur 3 s v)) 18446744073709551616) 0))else False)else False)else False)else False)else False)else False))):=by kernel_rfl
def kf (cfg:List Int):List Value:=
 [.pointer (some ⟨12,0,none⟩),.int .i64 (cfg.getD 0 0),.int .i64 (cfg.getD 1 0),.int .i64 (cfg.getD 2 0),.int .i64 (cfg.getD 3 0),.int .i64 (cfg.getD 4 0),.int .i64 (cfg.getD 5 0),.int .i64 (cfg.getD 6 0),Bn]
def kM (l other:List (EK.C Bq)) (cfg:List Int) (mo:AK) (L:List (List (EK.C AR))) (row:List (EK.C [.tok])) (sm:List (EK.C AR)) (rest:List AK):AA:=
 EC (iJ l other) (.cells (kf cfg) 0 false::mo:: .vec [.tok] row false:: .abs (.mem AR (L.map some)) false:: .vec AR sm false::rest)
def kX (l other:List (EK.C Bq)) (cfg:List Int) (len:Nat) (i:Int) (mo:AK) (L:List (List (EK.C AR))) (row:List (EK.C [.tok])) (sm:List (EK.C AR)) (rest:List AK):A8:=
 cq (Gr [(3,CT 10 other.length),(9,DW 11),(12,CT 13 len),(16,CT 15 sm.length),(17,.int .i64 i)]) kN kZ 2 (kM l other cfg mo L row sm rest)
def kg:List Nat:=[1,1,1,1,1,1,1,1,1,1,1,1,1,1,1,1,1,0,1,0,0]
def kj:List Nat:=[1,1,1,1,1,1,1,1,1,1,1,1,1,1,1,1,1,1]
def kT (l other:List (EK.C Bq)) (cfg:List Int) (len:Nat) (can:Bool) (i:Int) (mo:AK) (L:List (List (EK.C AR))) (row:List (EK.C [.tok])) (sm:List (EK.C AR)) (rest:List AK):A8:=
 cq (Gr [(9,DW 11),(12,CT 13 len),(16,CT 15 sm.length),(18,.bool can),(19,.int .i64 i)]) kg kj 4 (kM l other cfg mo L row sm rest)
def OO (l other:List (EK.C Bq)) (cfg:List Int) (m:Pk) (L:List (List (EK.C AR))) (row:List (EK.C [.tok])) (sm:List (EK.C AR)) (len:Nat) (i:Int):A8:=kX l other cfg len i (.abs (.pack m) false) L row sm []
def RF (l other:List (EK.C Bq)) (cfg:List Int) (m:AB) (del:Bool) (uk uv:ByteArray) (L:List (List (EK.C AR))) (row:List (EK.C [.tok])) (sm:List (EK.C AR)) (len:Nat) (i:Int):A8:=
 kX l other cfg len i (KI m 16 17 18 19) L row sm [Bi m.base,Bi m.now,.vec BL m.AJ false,II del uk uv]
def OH (l other:List (EK.C Bq)) (cfg:List Int) (m:Pk) (L:List (List (EK.C AR))) (row:List (EK.C [.tok])) (sm:List (EK.C AR)) (len:Nat) (can:Bool) (i:Int):A8:=kT l other cfg len can i (.abs (.pack m) false) L row sm []
def OX (l other:List (EK.C Bq)) (cfg:List Int) (m:AB) (del:Bool) (uk uv:ByteArray) (L:List (List (EK.C AR))) (row:List (EK.C [.tok])) (sm:List (EK.C AR)) (len:Nat) (can:Bool) (i:Int):A8:=
 kT l other cfg len can i (KI m 16 17 18 19) L row sm [Bi m.base,Bi m.now,.vec BL m.AJ false,II del uk uv]
def bF:Stop:=⟨AE,0,3,15,[9,10,11,12,13,14],[3,9,12,16,17]⟩
def MB:Stop:=⟨AE,0,3,15,[9,10,11,12,13,14],[9,12,16,18,19]⟩
def HD (ids:List Nat) (L:List (List (EK.C AR))):List (EK.C [.tok]):=List.map (IM (Gx 15 ids)) (AP 14 L)
def XI:Pf:=fun g=>bif Nat.beq g BE then some jt else bif Nat.beq g An then some (Sg (BU AL 9 [] Jj))else C4 g
def MI (n:Nat) (cur:List (EK.C AR)):Value:= .slice (some ⟨14,1,some n⟩) cur.length AF
def XW (h:Nat) (mh:AB) (x:Value) (cur:List (EK.C AR)):Pf:=fun g=>bif Nat.beq g Ay then some (ZE h (Iq x (Te (BU AL 9 [] Hg) cur)) (Sg (BU AL 9 [] Hg)))else bif Nat.beq g Aj then some il else
 bif Nat.beq g AD then some (ia mh cur)else bif Nat.beq g BO then some fw else bif Nat.beq g Bo then some (BU AL 9 [true] ET.G)else bif Nat.beq g CH then some (BU AL 9 [true] C9.G)else
 bif Nat.beq g Au then some (Iq x (Te (BU AL 9 [] Jb) cur))else bif Nat.beq g Ag then some (BU AL 9 [true] cM)else bif Nat.beq g Ax then some (BU AL 9 [] Uf)else bif Nat.beq g AX then some (BU AL 9 Dk fP)else C4 g
def XG (po:EB) (x:Value):Pf:=fun g=>bif Nat.beq g Ay then some (Iq x (Sg (BU AL 9 [] Hg)))else bif Nat.beq g Aj then some (fun _ _ _=>False)else bif Nat.beq g AD then some po else C4 g
theorem iS (l other:List (EK.C Bq)) (cfg:List Int) (m:AB) (L:List (List (EK.C AR))) (sm:List (EK.C AR)) (i:Int) (Q:Value->List (Option AK)->Prop) (R R2:A8->Prop):SQ E0 XI AE [] bF 2 MB 4 [] Q R R2 600 (OO l other cfg (.model m) L (AP 14 L) sm L.length i)=(
 (bif decide (i < Int.ofNat (List.length other))then(bif decide (0<=i)&&Nat.blt (Int.toNat i) (List.length other)then(bif Nat.blt (0+Int.toNat i) (List.length other)then(DJ (Prod.fst (List.getD other (0+Int.toNat i) (EK.AZ Bq)))/\DJ (Prod.fst (Prod.snd (List.getD other (0+Int.toNat i) (EK.AZ Bq))))/\DJ (Prod.snd (Prod.snd (List.getD other (0+Int.toNat i) (EK.AZ Bq)))))/\((List.length sm=List.length sm/\AF=AF)/\List.length sm < 400000)/\(R (OO l other cfg (Pk.model m) L (HD [16] L) (Ar sm (aK (Prod.fst (List.getD other (0+Int.toNat i) (EK.AZ Bq)))) (aS (Prod.fst (List.getD other (0+Int.toNat i) (EK.AZ Bq))) (Prod.fst (Prod.snd (List.getD other (0+Int.toNat i) (EK.AZ Bq))))) (aV (Prod.fst (List.getD other (0+Int.toNat i) (EK.AZ Bq))) (Prod.snd (Prod.snd (List.getD other (0+Int.toNat i) (EK.AZ Bq)))))) (L.length) (IntKind.wrap .i64 (i+1))))else False)else False)else(R2 (OH l other cfg (Pk.model m) L (HD [15] L) sm (L.length) false 0)))):=by kernel_rfl
theorem iT (l other:List (EK.C Bq)) (cfg:List Int) (m:AB) (del:Bool) (uk uv:ByteArray) (L:List (List (EK.C AR))) (sm:List (EK.C AR)) (i:Int) (Q:Value->List (Option AK)->Prop) (R R2:A8->Prop):SQ E0 XI AE [] bF 2 MB 4 [] Q R R2 600 (RF l other cfg m del uk uv L (AP 14 L) sm L.length i)=(
 (bif decide (i < Int.ofNat (List.length other))then(bif decide (0<=i)&&Nat.blt (Int.toNat i) (List.length other)then(bif Nat.blt (0+Int.toNat i) (List.length other)then(DJ (Prod.fst (List.getD other (0+Int.toNat i) (EK.AZ Bq)))/\DJ (Prod.fst (Prod.snd (List.getD other (0+Int.toNat i) (EK.AZ Bq))))/\DJ (Prod.snd (Prod.snd (List.getD other (0+Int.toNat i) (EK.AZ Bq)))))/\((List.length sm=List.length sm/\AF=AF)/\List.length sm < 400000)/\(R (RF l other cfg m del uk uv L (HD [20,16,17,18,19] L) (Ar sm (aK (Prod.fst (List.getD other (0+Int.toNat i) (EK.AZ Bq)))) (aS (Prod.fst (List.getD other (0+Int.toNat i) (EK.AZ Bq))) (Prod.fst (Prod.snd (List.getD other (0+Int.toNat i) (EK.AZ Bq))))) (aV (Prod.fst (List.getD other (0+Int.toNat i) (EK.AZ Bq))) (Prod.snd (Prod.snd (List.getD other (0+Int.toNat i) (EK.AZ Bq)))))) (L.length) (IntKind.wrap .i64 (i+1))))else False)else False)else(R2 (OX l other cfg m del uk uv L (HD [15,16,17,18,19] L) sm (L.length) false 0)))):=by kernel_rfl
theorem iX (l other:List (EK.C Bq)) (cfg:List Int) (m:AB) (L:List (List (EK.C AR))) (sm:List (EK.C AR)) (n:Nat) (cur:List (EK.C AR)) (can:Bool) (i:Int) (Q:Value->List (Option AK)->Prop) (R R2:A8->Prop):SQ E0 (XW 16 (At m 2 false) (MI n cur) cur) AE [] MB 4 MB 4 [] Q R R2 900 (OH l other cfg (.model (At m 2 false)) L (AP 14 L) sm L.length can i)=(
 (bif decide (i < Int.ofNat (List.length L))then(bif decide (0<=i)&&Nat.blt (Int.toNat i) (List.length L)then(bif Nat.blt (0+Int.toNat i) (List.length (AP 14 L))&&Ek (SK.enc SK.tok (List.getD (AP 14 L) (0+Int.toNat i) (EK.AZ [SK.tok])))then(((.slice (Cz (SK.enc SK.tok (List.getD (AP 14 L) (0+Int.toNat i) (EK.AZ [SK.tok])))) (Cy (SK.enc SK.tok (List.getD (AP 14 L) (0+Int.toNat i) (EK.AZ [SK.tok])))) (C0 (SK.enc SK.tok (List.getD (AP 14 L) (0+Int.toNat i) (EK.AZ [SK.tok]))))):Value)=(.slice (some ⟨14,1,(some n)⟩) (List.length cur) 18446744073709551616))/\(Du (List.map some L) n cur)/\((List.length cur=List.length cur/\AF=AF)/\List.length cur < 1000000)/\(Ca cur cur (List.map some L) (List.set (List.map some L) n none) n)/\(List.length (AB.base (At m 2 false)) < 1000000/\List.length (AB.now (At m 2 false)) < 1000000/\List.length (AB.AJ (At m 2 false)) < 1000000)/\((List.length cur=List.length (Az cur)/\AF=AF)/\(List.length cur=List.length (A7 cur)/\AF=AF)/\j4 (At m 2 false) (Az cur) (A7 cur) cur)/\(CP.ok ET (mO (At m 2 false) cur) [])/\(bif decide (0<=i)&&Nat.blt (Int.toNat i) (List.length L)then(bif Nat.blt (0+Int.toNat i) (List.length (AP 14 L))&&Ek (SK.enc SK.tok (List.getD (AP 14 L) (0+Int.toNat i) (EK.AZ [SK.tok])))then(CP.ok C9 (CP.nx ET (mO (At m 2 false) cur) []) [])/\(bif Nat.blt (0+Int.toNat i) (List.length (AP 14 L))&&Ek (SK.enc SK.tok (List.getD (AP 14 L) (0+Int.toNat i) (EK.AZ [SK.tok])))then(((.slice (Cz (SK.enc SK.tok (List.getD (AP 14 L) (0+Int.toNat i) (EK.AZ [SK.tok])))) (Cy (SK.enc SK.tok (List.getD (AP 14 L) (0+Int.toNat i) (EK.AZ [SK.tok])))) (C0 (SK.enc SK.tok (List.getD (AP 14 L) (0+Int.toNat i) (EK.AZ [SK.tok]))))):Value)=(.slice (Cz (SK.enc SK.tok (List.getD (AP 14 L) (0+Int.toNat i) (EK.AZ [SK.tok])))) (Cy (SK.enc SK.tok (List.getD (AP 14 L) (0+Int.toNat i) (EK.AZ [SK.tok])))) (C0 (SK.enc SK.tok (List.getD (AP 14 L) (0+Int.toNat i) (EK.AZ [SK.tok]))))))/\(bif decide (0<=i)&&Nat.blt (Int.toNat i) (List.length L)then(((.pointer (some ⟨13,0,(some (0+Int.toNat i))⟩)):Value)=(.pointer (some ⟨13,0,(some (0+Int.toNat i))⟩)))/\(((.int .i64 i):Value)=(.int .i64 i))/\(((.slice (some ⟨13,0,(some 0)⟩) (List.length L) 18446744073709551616):Value)=(.slice (some ⟨13,0,(some 0)⟩) (List.length L) 18446744073709551616))/\(((.slice (Cz (SK.enc SK.tok (List.getD (AP 14 L) (0+Int.toNat i) (EK.AZ [SK.tok])))) (Cy (SK.enc SK.tok (List.getD (AP 14 L) (0+Int.toNat i) (EK.AZ [SK.tok])))) (C0 (SK.enc SK.tok (List.getD (AP 14 L) (0+Int.toNat i) (EK.AZ [SK.tok]))))):Value)=(.slice (some ⟨14,1,(some n)⟩) (List.length cur) 18446744073709551616))/\(Du (List.map some L) n cur)/\((List.length cur=List.length cur/\AF=AF)/\Dz cur)/\(Ca cur cur (List.map some L) (List.set (List.map some L) n none) n)/\(bif AB.cost (CP.nx ET (mO (At m 2 false) cur) []) != BG cur then(Q (.bool false) [])else(List.length (AB.now (CP.nx C9 (CP.nx ET (mO (At m 2 false) cur) []) [])) < 1000000)/\((List.length (AB.now (CP.nx C9 (CP.nx ET (mO (At m 2 false) cur) []) []))=List.length (Az (AB.now (CP.nx C9 (CP.nx ET (mO (At m 2 false) cur) []) [])))/\AF=AF)/\(List.length cur=List.length (Az cur)/\AF=AF)/\List.length (Az (AB.now (CP.nx C9 (CP.nx ET (mO (At m 2 false) cur) []) []))) < 1000000/\List.length (Az cur) < 1000000)/\(bif Bx (Az (AB.now (CP.nx C9 (CP.nx ET (mO (At m 2 false) cur) []) []))) (Az cur)then
 ((List.length (AB.now (CP.nx C9 (CP.nx ET (mO (At m 2 false) cur) []) []))=List.length (A7 (AB.now (CP.nx C9 (CP.nx ET (mO (At m 2 false) cur) []) [])))/\AF=AF)/\(List.length cur=List.length (A7 cur)/\AF=AF)/\List.length (A7 (AB.now (CP.nx C9 (CP.nx ET (mO (At m 2 false) cur) []) []))) < 1000000/\List.length (A7 cur) < 1000000)/\(bif Bx (A7 (AB.now (CP.nx C9 (CP.nx ET (mO (At m 2 false) cur) []) []))) (A7 cur)then(Gh (CP.nx C9 (CP.nx ET (mO (At m 2 false) cur) []) []) 4 0 0 e_ e_ 0 e_)/\(bif IN (CP.nx C9 (CP.nx ET (mO (At m 2 false) cur) []) []) 4 0 0 e_ e_ 0 e_ != 0 then(Q (.bool false) [])else((List.length sm=List.length sm/\AF=AF)/\List.length sm < 1000000)/\(bif can then(R (OH l other cfg (Pk.model (At m 2 false)) L (HD [15] L) sm (L.length) true (IntKind.wrap .i64 (i+1))))else((List.length sm=List.length (Az sm)/\AF=AF)/\(List.length cur=List.length (Az cur)/\AF=AF)/\List.length (Az sm) < 1000000/\List.length (Az cur) < 1000000)/\(bif Bx (Az sm) (Az cur)then((List.length sm=List.length (A7 sm)/\AF=AF)/\(List.length cur=List.length (A7 cur)/\AF=AF)/\List.length (A7 sm) < 1000000/\List.length (A7 cur) < 1000000)/\(bif Bx (A7 sm) (A7 cur)then(R (OH l other cfg (Pk.model (At m 2 false)) L (HD [15] L) sm (L.length) true (IntKind.wrap .i64 (i+1))))else(R (OH l other cfg (Pk.model (At m 2 false)) L (HD [15] L) sm (L.length) false (IntKind.wrap .i64 (i+1)))))else(R (OH l other cfg (Pk.model (At m 2 false)) L (HD [15] L) sm (L.length) false (IntKind.wrap .i64 (i+1)))))))else(Q (.bool false) []))else(Q (.bool false) [])))else False)else False)else False)else False)else False)else False)else(((.slice (some ⟨15,0,(some 0)⟩) (List.length sm) 18446744073709551616):Value)=(.slice (some ⟨14,1,(some n)⟩) (List.length cur) 18446744073709551616))/\(Du (List.map some L) n cur)/\((List.length cur=List.length cur/\AF=AF)/\List.length cur < 1000000)/\(Ca cur cur (List.map some L) (List.set (List.map some L) n none) n)/\((List.length cur=List.length (Az cur)/\AF=AF)/\(List.length cur=List.length (A7 cur)/\AF=AF)/\j4 (At m 2 false) (Az cur) (A7 cur) cur)/\(bif can then(Q (.bool true) [])else(Q (.bool false) [])))):=by kernel_rfl
theorem iM (l other:List (EK.C Bq)) (cfg:List Int) (m:AB) (del:Bool) (uk uv:ByteArray) (L:List (List (EK.C AR))) (sm:List (EK.C AR)) (n:Nat) (cur:List (EK.C AR)) (can:Bool) (i:Int) (Q:Value->List (Option AK)->Prop) (R R2:A8->Prop):SQ E0 (XW 20 (At m 2 false) (MI n cur) cur) AE [] MB 4 MB 4 [] Q R R2 900 (OX l other cfg (At m 2 false) del uk uv L (AP 14 L) sm L.length can i)=(
 (bif decide (i < Int.ofNat (List.length L))then(bif decide (0<=i)&&Nat.blt (Int.toNat i) (List.length L)then(bif Nat.blt (0+Int.toNat i) (List.length (AP 14 L))&&Ek (SK.enc SK.tok (List.getD (AP 14 L) (0+Int.toNat i) (EK.AZ [SK.tok])))then(((.slice (Cz (SK.enc SK.tok (List.getD (AP 14 L) (0+Int.toNat i) (EK.AZ [SK.tok])))) (Cy (SK.enc SK.tok (List.getD (AP 14 L) (0+Int.toNat i) (EK.AZ [SK.tok])))) (C0 (SK.enc SK.tok (List.getD (AP 14 L) (0+Int.toNat i) (EK.AZ [SK.tok]))))):Value)=(.slice (some ⟨14,1,(some n)⟩) (List.length cur) 18446744073709551616))/\(Du (List.map some L) n cur)/\((List.length cur=List.length cur/\AF=AF)/\List.length cur < 1000000)/\(Ca cur cur (List.map some L) (List.set (List.map some L) n none) n)/\((List.length (AB.AJ (At m 2 false))=List.length (AB.AJ (At m 2 false))/\AF=AF)/\List.length (AB.base (At m 2 false)) < 1000000/\List.length (AB.now (At m 2 false)) < 1000000/\List.length (AB.AJ (At m 2 false)) < 1000000)/\((List.length cur=List.length (Az cur)/\AF=AF)/\(List.length cur=List.length (A7 cur)/\AF=AF)/\(List.length (AB.AJ (At m 2 false))=List.length (AB.AJ (At m 2 false))/\AF=AF)/\{ cfg:=[List.getD (AB.cfg (At m 2 false)) 0 0,List.getD (AB.cfg (At m 2 false)) 1 0,List.getD (AB.cfg (At m 2 false)) 2 0,List.getD (AB.cfg (At m 2 false)) 3 0,List.getD (AB.cfg (At m 2 false)) 4 0,List.getD (AB.cfg (At m 2 false)) 5 0,List.getD (AB.cfg (At m 2 false)) 6 0],AN:=AB.AN (At m 2 false),base:=AB.base (At m 2 false),now:=AB.now (At m 2 false),cost:=AB.cost (At m 2 false),AJ:=AB.AJ (At m 2 false),state:=AB.state (At m 2 false),AG:=AB.AG (At m 2 false) }=At m 2 false/\jn (At m 2 false) del uk uv (Az cur) (A7 cur) cur)/\(CP.ok ET (mO (At m 2 false) cur) [])/\(bif decide (0<=i)&&Nat.blt (Int.toNat i) (List.length L)then(bif Nat.blt (0+Int.toNat i) (List.length (AP 14 L))&&Ek (SK.enc SK.tok (List.getD (AP 14 L) (0+Int.toNat i) (EK.AZ [SK.tok])))then(CP.ok C9 (CP.nx ET (mO (At m 2 false) cur) []) [])/\(bif Nat.blt (0+Int.toNat i) (List.length (AP 14 L))&&Ek (SK.enc SK.tok (List.getD (AP 14 L) (0+Int.toNat i) (EK.AZ [SK.tok])))then(((.slice (Cz (SK.enc SK.tok (List.getD (AP 14 L) (0+Int.toNat i) (EK.AZ [SK.tok])))) (Cy (SK.enc SK.tok (List.getD (AP 14 L) (0+Int.toNat i) (EK.AZ [SK.tok])))) (C0 (SK.enc SK.tok (List.getD (AP 14 L) (0+Int.toNat i) (EK.AZ [SK.tok]))))):Value)=(.slice (Cz (SK.enc SK.tok (List.getD (AP 14 L) (0+Int.toNat i) (EK.AZ [SK.tok])))) (Cy (SK.enc SK.tok (List.getD (AP 14 L) (0+Int.toNat i) (EK.AZ [SK.tok])))) (C0 (SK.enc SK.tok (List.getD (AP 14 L) (0+Int.toNat i) (EK.AZ [SK.tok]))))))/\(bif decide (0<=i)&&Nat.blt (Int.toNat i) (List.length L)then(((.pointer (some ⟨13,0,(some (0+Int.toNat i))⟩)):Value)=(.pointer (some ⟨13,0,(some (0+Int.toNat i))⟩)))/\(((.int .i64 i):Value)=(.int .i64 i))/\(((.slice (some ⟨13,0,(some 0)⟩) (List.length L) 18446744073709551616):Value)=(.slice (some ⟨13,0,(some 0)⟩) (List.length L) 18446744073709551616))/\(((.slice (Cz (SK.enc SK.tok (List.getD (AP 14 L) (0+Int.toNat i) (EK.AZ [SK.tok])))) (Cy (SK.enc SK.tok (List.getD (AP 14 L) (0+Int.toNat i) (EK.AZ [SK.tok])))) (C0 (SK.enc SK.tok (List.getD (AP 14 L) (0+Int.toNat i) (EK.AZ [SK.tok]))))):Value)=(.slice (some ⟨14,1,(some n)⟩) (List.length cur) 18446744073709551616))/\(Du (List.map some L) n cur)/\((List.length cur=List.length cur/\AF=AF)/\Dz cur)/\(Ca cur cur (List.map some L) (List.set (List.map some L) n none) n)/\(bif AB.cost (CP.nx ET (mO (At m 2 false) cur) []) != BG cur then(Q (.bool false) [])else
 (List.length (AB.now (CP.nx C9 (CP.nx ET (mO (At m 2 false) cur) []) [])) < 1000000)/\((List.length (AB.now (CP.nx C9 (CP.nx ET (mO (At m 2 false) cur) []) []))=List.length (Az (AB.now (CP.nx C9 (CP.nx ET (mO (At m 2 false) cur) []) [])))/\AF=AF)/\(List.length cur=List.length (Az cur)/\AF=AF)/\List.length (Az (AB.now (CP.nx C9 (CP.nx ET (mO (At m 2 false) cur) []) []))) < 1000000/\List.length (Az cur) < 1000000)/\(bif Bx (Az (AB.now (CP.nx C9 (CP.nx ET (mO (At m 2 false) cur) []) []))) (Az cur)then((List.length (AB.now (CP.nx C9 (CP.nx ET (mO (At m 2 false) cur) []) []))=List.length (A7 (AB.now (CP.nx C9 (CP.nx ET (mO (At m 2 false) cur) []) [])))/\AF=AF)/\(List.length cur=List.length (A7 cur)/\AF=AF)/\List.length (A7 (AB.now (CP.nx C9 (CP.nx ET (mO (At m 2 false) cur) []) []))) < 1000000/\List.length (A7 cur) < 1000000)/\(bif Bx (A7 (AB.now (CP.nx C9 (CP.nx ET (mO (At m 2 false) cur) []) []))) (A7 cur)then(Gh (CP.nx C9 (CP.nx ET (mO (At m 2 false) cur) []) []) 4 0 0 e_ e_ 0 e_)/\(bif IN (CP.nx C9 (CP.nx ET (mO (At m 2 false) cur) []) []) 4 0 0 e_ e_ 0 e_ != 0 then(Q (.bool false) [])else((List.length sm=List.length sm/\AF=AF)/\List.length sm < 1000000)/\(bif can then(R (OX l other cfg (At m 2 false) del uk uv L (HD [15,16,17,18,19] L) sm (L.length) true (IntKind.wrap .i64 (i+1))))else((List.length sm=List.length (Az sm)/\AF=AF)/\(List.length cur=List.length (Az cur)/\AF=AF)/\List.length (Az sm) < 1000000/\List.length (Az cur) < 1000000)/\(bif Bx (Az sm) (Az cur)then((List.length sm=List.length (A7 sm)/\AF=AF)/\(List.length cur=List.length (A7 cur)/\AF=AF)/\List.length (A7 sm) < 1000000/\List.length (A7 cur) < 1000000)/\(bif Bx (A7 sm) (A7 cur)then(R (OX l other cfg (At m 2 false) del uk uv L (HD [15,16,17,18,19] L) sm (L.length) true (IntKind.wrap .i64 (i+1))))else(R (OX l other cfg (At m 2 false) del uk uv L (HD [15,16,17,18,19] L) sm (L.length) false (IntKind.wrap .i64 (i+1)))))else(R (OX l other cfg (At m 2 false) del uk uv L (HD [15,16,17,18,19] L) sm (L.length) false (IntKind.wrap .i64 (i+1)))))))else(Q (.bool false) []))else(Q (.bool false) [])))else False)else False)else False)else False)else False)else False)else(((.slice (some ⟨15,0,(some 0)⟩) (List.length sm) 18446744073709551616):Value)=(.slice (some ⟨14,1,(some n)⟩) (List.length cur) 18446744073709551616))/\(Du (List.map some L) n cur)/\((List.length cur=List.length cur/\AF=AF)/\List.length cur < 1000000)/\(Ca cur cur (List.map some L) (List.set (List.map some L) n none) n)/\((List.length cur=List.length (Az cur)/\AF=AF)/\(List.length cur=List.length (A7 cur)/\AF=AF)/\(List.length (AB.AJ (At m 2 false))=List.length (AB.AJ (At m 2 false))/\AF=AF)/\{ cfg:=[List.getD (AB.cfg (At m 2 false)) 0 0,List.getD (AB.cfg (At m 2 false)) 1 0,List.getD (AB.cfg (At m 2 false)) 2 0,List.getD (AB.cfg (At m 2 false)) 3 0,List.getD (AB.cfg (At m 2 false)) 4 0,List.getD (AB.cfg (At m 2 false)) 5 0,List.getD (AB.cfg (At m 2 false)) 6 0],AN:=AB.AN (At m 2 false),base:=AB.base (At m 2 false),now:=AB.now (At m 2 false),cost:=AB.cost (At m 2 false),AJ:=AB.AJ (At m 2 false),state:=AB.state (At m 2 false),AG:=AB.AG (At m 2 false) }=At m 2 false/\jn (At m 2 false) del uk uv (Az cur) (A7 cur) cur)/\(bif can then(Q (.bool true) [])else(Q (.bool false) [])))):=by kernel_rfl
theorem hU (l other:List (EK.C Bq)) (cfg:List Int) (m:AB) (L:List (List (EK.C AR))) (sm:List (EK.C AR)) (can:Bool) (i:Int) (Q:Value->List (Option AK)->Prop):Ex E0 (XG (bw m) (CT 15 sm.length)) AE [] Q 900 (OH l other cfg (.model (At m 2 false)) L (AP 14 L) sm L.length can i)=(
 (bif decide (i < Int.ofNat (List.length L))then(bif decide (0<=i)&&Nat.blt (Int.toNat i) (List.length L)then(bif Nat.blt (0+Int.toNat i) (List.length (AP 14 L))&&Ek (SK.enc SK.tok (List.getD (AP 14 L) (0+Int.toNat i) (EK.AZ [SK.tok])))then(((.slice (Cz (SK.enc SK.tok (List.getD (AP 14 L) (0+Int.toNat i) (EK.AZ [SK.tok])))) (Cy (SK.enc SK.tok (List.getD (AP 14 L) (0+Int.toNat i) (EK.AZ [SK.tok])))) (C0 (SK.enc SK.tok (List.getD (AP 14 L) (0+Int.toNat i) (EK.AZ [SK.tok]))))):Value)=(.slice (some ⟨15,0,(some 0)⟩) (List.length sm) 18446744073709551616))/\((List.length sm=List.length sm/\AF=AF)/\List.length sm < 1000000)/\False else False)else False)else(((.slice (some ⟨15,0,(some 0)⟩) (List.length sm) 18446744073709551616):Value)=(.slice (some ⟨15,0,(some 0)⟩) (List.length sm) 18446744073709551616))/\((List.length sm=List.length sm/\AF=AF)/\List.length sm < 1000000)/\((List.length sm=List.length (Az sm)/\AF=AF)/\(List.length sm=List.length (A7 sm)/\AF=AF)/\cd (At m 2 false) (Az sm) (A7 sm))/\(bif gL (At m 2 false) (Az sm) (A7 sm)==0 then(bif can then(Q (.bool true) [])else(Q (.bool false) []))else(bif can then(Q (.bool false) [])else(Q (.bool true) []))))):=by kernel_rfl
theorem iV (l other:List (EK.C Bq)) (cfg:List Int) (m:AB) (del:Bool) (uk uv:ByteArray) (L:List (List (EK.C AR))) (sm:List (EK.C AR)) (can:Bool) (i:Int) (Q:Value->List (Option AK)->Prop):Ex E0 (XG (bw (At m 2 false)) (CT 15 sm.length)) AE [] Q 900 (OX l other cfg (At m 2 false) del uk uv L (AP 14 L) sm L.length can i)=(
 (bif decide (i < Int.ofNat (List.length L))then(bif decide (0<=i)&&Nat.blt (Int.toNat i) (List.length L)then(bif Nat.blt (0+Int.toNat i) (List.length (AP 14 L))&&Ek (SK.enc SK.tok (List.getD (AP 14 L) (0+Int.toNat i) (EK.AZ [SK.tok])))then(((.slice (Cz (SK.enc SK.tok (List.getD (AP 14 L) (0+Int.toNat i) (EK.AZ [SK.tok])))) (Cy (SK.enc SK.tok (List.getD (AP 14 L) (0+Int.toNat i) (EK.AZ [SK.tok])))) (C0 (SK.enc SK.tok (List.getD (AP 14 L) (0+Int.toNat i) (EK.AZ [SK.tok]))))):Value)=(.slice (some ⟨15,0,(some 0)⟩) (List.length sm) 18446744073709551616))/\((List.length sm=List.length sm/\AF=AF)/\List.length sm < 1000000)/\False else False)else False)else(((.slice (some ⟨15,0,(some 0)⟩) (List.length sm) 18446744073709551616):Value)=(.slice (some ⟨15,0,(some 0)⟩) (List.length sm) 18446744073709551616))/\((List.length sm=List.length sm/\AF=AF)/\List.length sm < 1000000)/\((List.length sm=List.length (Az sm)/\AF=AF)/\(List.length sm=List.length (A7 sm)/\AF=AF)/\(List.length (AB.AJ (At m 2 false))=List.length (AB.AJ (At m 2 false))/\AF=AF)/\{ cfg:=[List.getD (AB.cfg (At m 2 false)) 0 0,List.getD (AB.cfg (At m 2 false)) 1 0,List.getD (AB.cfg (At m 2 false)) 2 0,List.getD (AB.cfg (At m 2 false)) 3 0,List.getD (AB.cfg (At m 2 false)) 4 0,List.getD (AB.cfg (At m 2 false)) 5 0,List.getD (AB.cfg (At m 2 false)) 6 0],AN:=AB.AN (At m 2 false),base:=AB.base (At m 2 false),now:=AB.now (At m 2 false),cost:=AB.cost (At m 2 false),AJ:=AB.AJ (At m 2 false),state:=AB.state (At m 2 false),AG:=AB.AG (At m 2 false) }=At m 2 false/\Zd (At m 2 false) del uk uv (Az sm) (A7 sm))/\(bif Option.isSome (Xq (At m 2 false) del uk uv (Az sm) (A7 sm))then(bif can then(Q (.bool true) [])else(Q (.bool false) []))else(bif can then(Q (.bool false) [])else(Q (.bool true) []))))):=by kernel_rfl
theorem UQ:∀(x c:List (EK.C AR)),DB x (Az c) (A7 c)=true->x=c
 | [],[],_=>rfl
 | [],y::c,h=>by
  unfold DB at h;simp only[Bool.and_eq_true]at h;have:=KH h.1;simp[Az]at this
 | x::l,[],h=>by
  unfold DB at h;simp only[Bool.and_eq_true]at h;have:=KH h.1;simp[Az]at this
 | x::l,y::c,h=>by
  have h2:DB (x::l) (y.1::Az c) (y.2::A7 c)=true:=h;rw[O6]at h2;simp only[Bool.and_eq_true]at h2;have e:=UQ l c (by unfold DB;rw[h2.1.2,h2.2.2];rfl);have e1:=Ku (eq_of_beq h2.1.1);have e2:=Ku (eq_of_beq h2.2.1);rw[e]
  congr 1
  exact Prod.ext e1.symm e2.symm
structure Src (P L:List (List (EK.C AR))):Prop where
 JT:Je P
 sub:∀x,x∈L ↔ x∈P
 len:L.length<=1002
 sh:∀x∈L,x.length < 900000
theorem Src.find {P L:List (List (EK.C AR))} (h:Src P L) {c:List (EK.C AR)} (hc:c∈L):Cq P (Az c) (A7 c)=some c:=by
 have hs:=cL ((h.sub c).1 hc);cases hf:Cq P (Az c) (A7 c)with
 | none=>rw[hf]at hs;cases hs
 | some x=>
  have:=List.find?_some hf;rw[UQ x c this]
theorem Src.any {P L:List (List (EK.C AR))} (h:Src P L) (ks vs:List (EK.C kS)):(Cq P ks vs).isSome=L.any fun x=>DB x ks vs:=by
 unfold Cq;rw[Bool.eq_iff_iff,List.find?_isSome,List.any_eq_true];exact⟨fun⟨x,h1,h2⟩=>⟨x,(h.sub x).2 h1,h2⟩,fun⟨x,h1,h2⟩=>⟨x,(h.sub x).1 h1,h2⟩⟩
theorem Src.small {P L:List (List (EK.C AR))} (h:Src P L) {c:List (EK.C AR)} (hc:c∈L):Dz c:=(h.JT c ((h.sub c).1 hc)).2
theorem FY {l:List (EK.C AR)} (hs:A5 l) (k:Int) (s v:ByteArray):A5 (Ar l k s v)/\(Ar l k s v).length<=l.length+1:=by
 cases h:k==1
 ·have e:Ar l k s v=Ar l 3 s v:=by unfold Ar;rw[h];rfl
  obtain⟨_,h1,h2,_⟩:=JP hs s v;rw[e];exact⟨h1,by omega⟩
 ·have e:k=1:=by simpa using h
  subst e;obtain⟨_,h1,h2,_⟩:=JE hs s v;exact⟨h1,h2⟩
theorem any_succ {α:Type} (p:α->Bool) {l:List α} {i:Nat} {x:α} (h:l[i]? = some x):(l.take (i+1)).any p=((l.take i).any p||p x):=by
 rw[List.take_add_one,h,List.any_append];simp
theorem g8 (hw:JL Tryz.prog AL WV):A4 Tryz.prog AL iI:=A4.cons (VE hw) (A4.cons Xk (A4.cons Xr (A4.cons Xw (A4.cons cg (A4.cons cH (A4.cons cZ (A4.cons bR
 (A4.cons (I3 Vp) (A4.cons ck (A4.cons YS (A4.cons (I3 Qd) (A4.cons WL (A4.cons Ym (A4.cons (I3 Qc) (A4.nil _ _)))))))))))))))
theorem Qh (h:Nat) (mh:AB) (x:Value) (cur:List (EK.C AR)):Eg E0 (XW h mh x cur):=
 Ap (ZR (F7 fun args H K h=>KX (F:=Al AL 9 [] Hg) (by kernel_rfl) (fun _ _ _ h=>DA h) args H K h) (fun args H K h=>KW (F:=Al AL 9 [] Hg) (by kernel_rfl) (fun _ _ _ h=>DA h) args H K h))
 (Ap (fun _ _ _ h=>Z7 (by kernel_rfl) _ _ _ h) (Ap (fun _ _ _ h=>bm (by kernel_rfl) _ _ _ h) (Ap (fun _ _ _ h=>Us (by kernel_rfl) _ _ _ h) (Ap (fun _ _ _ h=>A9 (by kernel_rfl) h) (Ap (fun _ _ _ h=>A9 (by kernel_rfl) h)
 (Ap (F7 fun args H K h=>KX (F:=Al AL 9 [] Jb) (by kernel_rfl) (fun _ _ _ h=>DA h) args H K h) (Ap (fun _ _ _ h=>A9 (by kernel_rfl) h) (Ap (fun _ _ _ h=>A9 (by kernel_rfl) h) (Ap (fun _ _ _ h=>A9 (by kernel_rfl) h) (A6 _))))))))))
theorem SD (mh:AB) (x:Value):Eg E0 (XG (bw mh) x):=
 Ap (F7 fun args H K h=>KW (F:=Al AL 9 [] Hg) (by kernel_rfl) (fun _ _ _ h=>DA h) args H K h) (Ap (fun _ _ _ h=>h.elim) (Ap (fun _ _ _ h=>aW (by kernel_rfl) _ _ _ h) (A6 _)))
theorem HI (ids:List Nat) (L:List (List (EK.C AR))):HD ids L=AP 14 L:=Ih (fun _ _=>rfl) 0 L
def KN (L:List (List (EK.C AR))) (sm:List (EK.C AR)) (i:Nat):Bool:=(L.take i).any fun x=>DB x (Az sm) (A7 sm)
structure Tl (m:AB) (P L:List (List (EK.C AR))):Prop where
 cfg:m.cfg.length=7
 nb:m.base.length < 1000000
 nn:m.now.length < 1000000
 nu:m.AJ.length < 1000000
 src:Src P L
theorem US {m:AB} (h:m.cfg.length=7):(⟨[List.getD (AB.cfg (At m 2 false)) 0 0,List.getD (AB.cfg (At m 2 false)) 1 0,List.getD (AB.cfg (At m 2 false)) 2 0,List.getD (AB.cfg (At m 2 false)) 3 0,List.getD (AB.cfg (At m 2 false)) 4 0,List.getD (AB.cfg (At m 2 false)) 5 0,List.getD (AB.cfg (At m 2 false)) 6 0],AB.AN (At m 2 false),AB.base (At m 2 false),AB.now (At m 2 false),AB.cost (At m 2 false),AB.AJ (At m 2 false),AB.state (At m 2 false),AB.AG (At m 2 false)⟩:AB)=At m 2 false:=by
 obtain⟨cfg,lim,bs,nw,cost,AJ,st0,pl⟩:=m;obtain⟨c0,c1,c2,c3,c4,c5,c6,rfl⟩:=GV h;rfl
section
variable {m:AB} {L:List (List (EK.C AR))} {cfg:List Int} {l other:List (EK.C Bq)} {sm:List (EK.C AR)} {del:Bool} {uk uv:ByteArray}
theorem YR {P:List (List (EK.C AR))} (hs:Src P L) {b:Bool} (hb:b=(Cq P (Az sm) (A7 sm)).isSome):
 (bif b then(bif KN L sm L.length then Value.bool true= .bool true else Value.bool false= .bool true)else(bif KN L sm L.length then Value.bool false= .bool true else Value.bool true= .bool true)):=by
 have e:KN L sm L.length=b:=by
  rw[hb,hs.any];unfold KN;rw[List.take_length]
 rw[e];cases b<;>rfl
theorem dU {m:AB} (hc:m.cfg.length=7) {cur:List (EK.C AR)} (hs:A5 cur) (hn:cur.length < 900000):Gh (mO (At m 2 false) cur) 4 0 0 { data:=#[] } { data:=#[] } 0 { data:=#[] }/\IN (mO (At m 2 false) cur) 4 0 0 { data:=#[] } { data:=#[] } 0 { data:=#[] }=0:=
 ⟨⟨hc,rfl,rfl,EL.sync.ok,hs,hn,Nat.zero_lt_succ _,fun h=>by cases h⟩,(JI EL.sync rfl (we:=0) (wv:={ data:=#[] }) (u:=false) rfl rfl rfl).1⟩
theorem cV (h:Tl m (BT m.base m.AJ) L) (hsm:sm.length < 400000):∀(q i:Nat),L.length - i=q->i<=L.length->Ad E0 15 AE L8 (OH l other cfg (.model (At m 2 false)) L (AP 14 L) sm L.length (KN L sm i) i):=by
 have hm1:(Az sm).length=sm.length:=by unfold Az;rw[List.length_map]
 have hm2:(A7 sm).length=sm.length:=by unfold A7;rw[List.length_map]
 intro q;induction q with
 | zero=>
  intro i hq hi;have he:i=L.length:=by omega
  subst he;refine BW.Fk (Bt (SD m (CT 15 sm.length)) (ids:=[]) (Q:=fun v _=>v= .bool true) 900 _ ?_);rw[hU];refine AU (fun hh=>absurd hh (Int.lt_irrefl _)) (fun _=>⟨rfl,⟨⟨rfl,rfl⟩,by omega⟩,⟨⟨hm1.symm,rfl⟩,⟨hm2.symm,rfl⟩,⟨rfl,h.nu,h.src.JT,hm1.trans hm2.symm⟩⟩,YR h.src ?_⟩);unfold gL;show _=(Cq (BT (At m 2 false).base (At m 2 false).AJ) (Az sm) (A7 sm)).isSome;cases Cq (BT (At m 2 false).base (At m 2 false).AJ) (Az sm) (A7 sm)<;>rfl
 | succ q ih=>
  intro i hq hi;have hlt:i < L.length:=by omega
  have hcur:L[i]? = some L[i]:=List.getElem?_eq_getElem hlt;have hmem:L[i]∈L:=List.getElem_mem hlt;generalize L[i]=cur at hcur hmem;obtain⟨hso,hsml⟩:=h.src.JT cur ((h.src.sub cur).1 hmem);have hf:=h.src.find hmem;have hk1:(Az cur).length=cur.length:=by unfold Az;rw[List.length_map]
  have hk2:(A7 cur).length=cur.length:=by unfold A7;rw[List.length_map]
  have hcl:=hsml.1;obtain⟨hd1,hd2⟩:=dU h.cfg hso (h.src.sh cur hmem);have hany:KN L sm (i+1)=(KN L sm i||(Bx (Az sm) (Az cur)&&Bx (A7 sm) (A7 cur))):=any_succ _ hcur;have ih:=ih (i+1) (by omega) (by omega);rw[hany]at ih;generalize KN L sm i=can at ih ⊢;refine LZ (Qh 16 (At m 2 false) (MI i cur) cur) (ids:=[]) (S:=MB) (S2:=MB) (b:=4) (b2:=4) (ks:=[]) (by kernel_rfl) rfl rfl (Q:=fun _ _=>False) (R:=fun c=>c=OH l other cfg (.model (At m 2 false)) L (AP 14 L) sm L.length (can||(Bx (Az sm) (Az cur)&&Bx (A7 sm) (A7 cur))) (i+1:Nat)) (R2:=fun _=>False) (fun v H h=>h.elim) (fun c h=>by rw[h];exact ih) (fun c h=>h.elim) 900 _ ?_;rw[iX,HI,Bv (by have:=h.src.len;omega)];have hrow:(Nat.blt (0+Int.toNat (i:Int)) (List.length (AP 14 L))&&Ek (SK.enc SK.tok (List.getD (AP 14 L) (0+Int.toNat (i:Int)) (EK.AZ [SK.tok]))))=true:=by
   rw[GF hcur,Cd,Int.toNat_natCast,Nat.zero_add];have:Nat.blt i L.length=true:=Nat.ble_eq_true_of_le (by omega);rw[this];rfl
  have hval:Value.slice (Cz (SK.enc SK.tok (List.getD (AP 14 L) (0+Int.toNat (i:Int)) (EK.AZ [SK.tok])))) (Cy (SK.enc SK.tok (List.getD (AP 14 L) (0+Int.toNat (i:Int)) (EK.AZ [SK.tok])))) (C0 (SK.enc SK.tok (List.getD (AP 14 L) (0+Int.toNat (i:Int)) (EK.AZ [SK.tok]))))= .slice (some ⟨14,1,some i⟩) cur.length 18446744073709551616:=by
   rw[GF hcur,EH];rfl
  refine AU (fun _=>?_) (fun hh=>absurd (show(i:Int) < Int.ofNat L.length by simpa using hlt) hh);refine AH (ca hlt) (AH hrow ⟨hval,CK hcur,⟨⟨rfl,rfl⟩,hcl⟩,⟨rfl,rfl⟩,⟨h.nb,h.nn,h.nu⟩,⟨⟨hk1.symm,rfl⟩,⟨hk2.symm,rfl⟩,⟨⟨rfl,h.nu,h.src.JT,hk1.trans hk2.symm⟩,hf⟩⟩,rfl,
   AH (ca hlt) (AH hrow ⟨rfl,AH hrow ⟨rfl,AH (ca hlt) ⟨rfl,rfl,rfl,hval,CK hcur,⟨⟨rfl,rfl⟩,hsml⟩,⟨rfl,rfl⟩,P7 rfl ⟨hcl,⟨⟨hk1.symm,rfl⟩,⟨hk1.symm,rfl⟩,by show(Az cur).length < _;omega,by omega⟩,AH (EZ (Az cur))
    ⟨⟨⟨hk2.symm,rfl⟩,⟨hk2.symm,rfl⟩,by show(A7 cur).length < _;omega,by omega⟩,AH (EZ (A7 cur)) ⟨hd1,P7 hd2 ⟨⟨⟨rfl,rfl⟩,by omega⟩,?_⟩⟩⟩⟩⟩⟩⟩)⟩)
  refine Ae (fun hc=>by rw[hc];rfl) (fun hc=>⟨⟨⟨hm1.symm,rfl⟩,⟨hk1.symm,rfl⟩,by omega,by omega⟩,Ae (fun h1=>⟨⟨⟨hm2.symm,rfl⟩,⟨hk2.symm,rfl⟩,by omega,by omega⟩,Ae (fun h2=>by rw[hc,h1,h2];rfl) (fun h2=>by rw[hc,h1,h2];rfl)⟩) (fun h1=>by rw[hc,h1];rfl)⟩)
theorem bY (h:Tl m (BT m.base (m.AJ++[(del,uk,uv)])) L) (hsm:sm.length < 400000):∀(q i:Nat),L.length - i=q->i<=L.length->Ad E0 15 AE L8 (OX l other cfg (At m 2 false) del uk uv L (AP 14 L) sm L.length (KN L sm i) i):=by
 have hm1:(Az sm).length=sm.length:=by unfold Az;rw[List.length_map]
 have hm2:(A7 sm).length=sm.length:=by unfold A7;rw[List.length_map]
 intro q;induction q with
 | zero=>
  intro i hq hi;have he:i=L.length:=by omega
  subst he;refine BW.Fk (Bt (SD (At m 2 false) (CT 15 sm.length)) (ids:=[]) (Q:=fun v _=>v= .bool true) 900 _ ?_);rw[iV];exact AU (fun hh=>absurd hh (Int.lt_irrefl _)) (fun _=>⟨rfl,⟨⟨rfl,rfl⟩,by omega⟩,⟨⟨hm1.symm,rfl⟩,⟨hm2.symm,rfl⟩,⟨rfl,rfl⟩,US h.cfg,⟨rfl,h.nu,h.src.JT,hm1.trans hm2.symm⟩⟩,YR h.src rfl⟩)
 | succ q ih=>
  intro i hq hi;have hlt:i < L.length:=by omega
  have hcur:L[i]? = some L[i]:=List.getElem?_eq_getElem hlt;have hmem:L[i]∈L:=List.getElem_mem hlt;generalize L[i]=cur at hcur hmem;obtain⟨hso,hsml⟩:=h.src.JT cur ((h.src.sub cur).1 hmem);have hf:=h.src.find hmem;have hk1:(Az cur).length=cur.length:=by unfold Az;rw[List.length_map]
  have hk2:(A7 cur).length=cur.length:=by unfold A7;rw[List.length_map]
  have hcl:=hsml.1;obtain⟨hd1,hd2⟩:=dU h.cfg hso (h.src.sh cur hmem);have hany:KN L sm (i+1)=(KN L sm i||(Bx (Az sm) (Az cur)&&Bx (A7 sm) (A7 cur))):=any_succ _ hcur;have ih:=ih (i+1) (by omega) (by omega);rw[hany]at ih;generalize KN L sm i=can at ih ⊢;refine LZ (Qh 20 (At m 2 false) (MI i cur) cur) (ids:=[]) (S:=MB) (S2:=MB) (b:=4) (b2:=4) (ks:=[]) (by kernel_rfl) rfl rfl (Q:=fun _ _=>False) (R:=fun c=>c=OX l other cfg (At m 2 false) del uk uv L (AP 14 L) sm L.length (can||(Bx (Az sm) (Az cur)&&Bx (A7 sm) (A7 cur))) (i+1:Nat)) (R2:=fun _=>False) (fun v H h=>h.elim) (fun c h=>by rw[h];exact ih) (fun c h=>h.elim) 900 _ ?_;rw[iM,HI,Bv (by have:=h.src.len;omega)];have hrow:(Nat.blt (0+Int.toNat (i:Int)) (List.length (AP 14 L))&&Ek (SK.enc SK.tok (List.getD (AP 14 L) (0+Int.toNat (i:Int)) (EK.AZ [SK.tok]))))=true:=by
   rw[GF hcur,Cd,Int.toNat_natCast,Nat.zero_add];have:Nat.blt i L.length=true:=Nat.ble_eq_true_of_le (by omega);rw[this];rfl
  have hval:Value.slice (Cz (SK.enc SK.tok (List.getD (AP 14 L) (0+Int.toNat (i:Int)) (EK.AZ [SK.tok])))) (Cy (SK.enc SK.tok (List.getD (AP 14 L) (0+Int.toNat (i:Int)) (EK.AZ [SK.tok])))) (C0 (SK.enc SK.tok (List.getD (AP 14 L) (0+Int.toNat (i:Int)) (EK.AZ [SK.tok]))))= .slice (some ⟨14,1,some i⟩) cur.length 18446744073709551616:=by
   rw[GF hcur,EH];rfl
  refine AU (fun _=>?_) (fun hh=>absurd (show(i:Int) < Int.ofNat L.length by simpa using hlt) hh);refine AH (ca hlt) (AH hrow ⟨hval,CK hcur,⟨⟨rfl,rfl⟩,hcl⟩,⟨rfl,rfl⟩,⟨⟨rfl,rfl⟩,h.nb,h.nn,h.nu⟩,⟨⟨hk1.symm,rfl⟩,⟨hk2.symm,rfl⟩,⟨rfl,rfl⟩,US h.cfg,⟨⟨rfl,h.nu,h.src.JT,hk1.trans hk2.symm⟩,hf⟩⟩,rfl,
   AH (ca hlt) (AH hrow ⟨rfl,AH hrow ⟨rfl,AH (ca hlt) ⟨rfl,rfl,rfl,hval,CK hcur,⟨⟨rfl,rfl⟩,hsml⟩,⟨rfl,rfl⟩,P7 rfl ⟨hcl,⟨⟨hk1.symm,rfl⟩,⟨hk1.symm,rfl⟩,by show(Az cur).length < _;omega,by omega⟩,AH (EZ (Az cur))
    ⟨⟨⟨hk2.symm,rfl⟩,⟨hk2.symm,rfl⟩,by show(A7 cur).length < _;omega,by omega⟩,AH (EZ (A7 cur)) ⟨hd1,P7 hd2 ⟨⟨⟨rfl,rfl⟩,by omega⟩,?_⟩⟩⟩⟩⟩⟩⟩)⟩)
  refine Ae (fun hc=>by rw[hc];rfl) (fun hc=>⟨⟨⟨hm1.symm,rfl⟩,⟨hk1.symm,rfl⟩,by omega,by omega⟩,Ae (fun h1=>⟨⟨⟨hm2.symm,rfl⟩,⟨hk2.symm,rfl⟩,by omega,by omega⟩,Ae (fun h2=>by rw[hc,h1,h2];rfl) (fun h2=>by rw[hc,h1,h2];rfl)⟩) (fun h1=>by rw[hc,h1];rfl)⟩)
end
end Go.AI
namespace Go.AI
theorem Q7 {X:Ctx} {S:Stop} {ks:List (FuncId × List Nat)} {M:Nat} (hM:M<=S.N) (hl:(X.laid.all fun p=>Nat.blt p.1 S.N)=true) {c c2:A8} {Φ:A8->Prop} (hc:S.IY X ks c=some c2) (h:BC X M c2 Φ):BC X M c Φ:=by
 unfold Stop.IY at hc;split at hc
 ·rename_i c1 h1;cases hd:(Cu c1.fr.todo&&(c1.cs.all fun f=>Cu f.todo))
  ·simp only[hd,cond_false]at hc;cases hc
  ·simp only[hd,cond_true]at hc;simp only[Bool.and_eq_true]at hd;cases hb:(Nat.ble S.N (Fv ks (S.ids c1) c1).H.next&&(S.ids (Fv ks (S.ids c1) c1)).all (fun b=>Nat.blt b (Fv ks (S.ids c1) c1).H.next))
   ·simp only[hb,cond_false]at hc;cases hc
   ·simp only[hb,cond_true]at hc;have hr:=Im (X:=X) hM hl hc h;exact BC.bind (Reach.Fk ((Mj.step h1).reach (Φ:=fun c'=>c'=c1) rfl)) fun c' e=>e ▸ NH hd.1 hd.2 hr
 ·cases hc
theorem JD {X:Ctx} {pf:Pf} (hpf:Eg X pf) {f:FuncId} {ids:List Nat} {M:Nat} {S S2:Stop} {b b2:Nat} {ks:List (FuncId × List Nat)} (hl:(X.laid.all fun p=>Nat.blt p.1 M)=true) (hN:M<=S.N) (hN2:M<=S2.N) {Q:Value->List (Option AK)->Prop} {R R2:A8->Prop} {Q':Value->AA->Prop}
 (hQ:∀v H,Q v ((ids++Af 4 v).map H.get)->Q' v H) (hR:∀c,R c->Ad X M f Q' c) (hR2:∀c,R2 c->Ad X M f Q' c):∀(n:Nat) (c:A8),SQ X pf f ids S b S2 b2 ks Q R R2 n c->Ad X M f Q' c:=by
 have up:∀N,M<=N->(X.laid.all fun p=>Nat.blt p.1 N)=true:=fun N hMN=>by
  rw[List.all_eq_true]at hl ⊢;intro p hp;exact Nat.ble_eq_true_of_le (Nat.le_trans (Nat.le_of_ble_eq_true (hl p hp)) hMN)
 intro n;induction n with
 | zero=>intro c h;cases h
 | succ n ih=>
  intro c h;have h:(match DX X f c with
   | some (v,H)=>Q v ((ids++Af 4 v).map H.get)
   | none=>bif S.here c&&FO b c then(match S.IY X ks c with
    | some c2=>R c2
    | none=>False)
    else bif S2.here c&&FO b2 c then(match S2.IY X ks c with
     | some c2=>R2 c2
     | none=>False)
    else Ft X pf c (SQ X pf f ids S b S2 b2 ks Q R R2 n)):=h
  split at h
  ·rename_i v H e;exact BC.here ⟨v,H,e,hQ v H h⟩
  ·cases hs:S.here c&&FO b c
   ·simp only[hs,cond_false]at h;cases hs2:S2.here c&&FO b2 c
    ·simp only[hs2,cond_false]at h;exact BC.bind (Reach.Fk (Ge hpf h)) fun c' hc=>ih c' hc
    ·simp only[hs2,cond_true]at h;split at h
     ·rename_i c2 hc;exact Q7 (X:=X) (S:=S2) hN2 (up _ hN2) hc (hR2 c2 h)
     ·cases h
   ·simp only[hs,cond_true]at h;split at h
    ·rename_i c2 hc;exact Q7 (X:=X) (S:=S) hN (up _ hN) hc (hR c2 h)
    ·cases h
end Go.AI
namespace Go.AI
open Go.Proofs
theorem KQ {ρ:Rn} {b b2:Nat} (hb:∀j n,IM ρ (.slice (some ⟨b,1,some j⟩) n AF)= .slice (some ⟨b2,1,some j⟩) n AF):∀(j:Nat) (L:List (List (EK.C AR))),List.map (IM ρ) (D9 b j L)=D9 b2 j L
 | _,[]=>rfl
 | j,l::L=>by
  show IM ρ (.slice (some ⟨b,1,some j⟩) l.length AF)::List.map (IM ρ) (D9 b (j+1) L)=_;rw[hb,KQ hb (j+1) L];rfl
theorem My (ids:List Nat) {n:Nat} {L:List (List (EK.C AR))} (h:L.length=n+1):Rt ids n L=AP 15 L:=by
 unfold Rt;rw[List.drop_zero,List.take_of_length_le (by rw[Cd,h];exact Nat.le_refl _)];exact Ih (fun _ _=>rfl) 0 L
theorem NR (ids:List Nat) {z n:Nat} {L:List (List (EK.C AR))} (h:L.length=n+1) (w:List (EK.C AR)) (hz:IM (Gx 16 ids) (.slice (some ⟨z,0,some 0⟩) w.length AF)= .slice (some ⟨17,0,some 0⟩) w.length AF):RB ids z n L w=HE 15 17 L w.length []:=by
 unfold RB;rw[List.drop_zero,List.drop_zero,List.take_take,List.take_of_length_le (by rw[Cd,h];omega),List.map_append,show List.map (IM (Gx 16 ids)) (AP 15 L)=AP 15 L from Ih (fun _ _=>rfl) 0 L];show _++[IM (Gx 16 ids) (.slice (some ⟨z,0,some 0⟩) w.length AF)]=_;rw[hz];rfl
section
variable {m:AB} {L:List (List (EK.C AR))} {cfg:List Int} {l other:List (EK.C Bq)} {la lb lc:Int} {rowk:List (EK.C [.tok])} {w:List (EK.C AR)} {del:Bool} {uk uv:ByteArray} {n len:Nat} {pk:Pk}
theorem X9 (h:Ad E0 15 AE L8 (OO l other cfg pk L (AP 14 L) [] L.length 0)):Ad E0 11 AE L8 (dV l other la lb lc cfg pk L rowk (AP 15 L) len (CT 16 L.length) 0):=by
 refine BC.WM (X:=E0) 16 3 AR (b:=10) (o:=0) (m:=other.length) (cap:=AF) (s:=some 0) rfl rfl rfl (by decide) ?_;refine Im (X:=E0) (N:=11) (M:=11) (Nat.le_refl _) (Ks:=[9,10,12,13,16,15,17]) (ids:=[12,13,16,15,17]) (live:=[3,9,12,16,17]) (by kernel_rfl) (c':=OO l other cfg pk L (List.map (IM (Gx 11 [12,13,16,15,17])) (AP 15 L)) [] L.length 0) (by kernel_rfl) ?_;rw[show List.map (IM (Gx 11 [12,13,16,15,17])) (AP 15 L)=AP 14 L from KQ (fun _ _=>rfl) 0 L];exact Ad.lower (by decide) h
theorem Ln {H:AA} {a y z k:Nat} (hy:H.get y=some (.vec [.tok] (HE a z L k []) false)) (ha:H.get a=some (.abs (.mem AR (L.map some)) false)) (hne:L≠[]) (hya:y≠a):a∈Am H 0 200 [y] []:=by
 rw[As hy rfl,O5,List.append_nil];obtain⟨n,hn⟩:∃n,L.length=n+1:=⟨L.length - 1,by have:=List.length_pos_iff.2 hne;omega⟩
 rw[hn];show a∈Am H 0 199 (a::(List.replicate n a++[z])) [y];have hs:([y]:List Nat).any (Nat.beq a)=false:=by
  have:Nat.beq a y=false:=by
   cases h:Nat.beq a y
   ·rfl
   ·exact absurd (Nat.eq_of_beq_eq_true h).symm hya
  simp[this]
 rw[As ha hs];exact Bf H 0 _ _ _ a (by simp)
theorem XF (hne:L≠[]) (h:Ad E0 15 AE L8 (OO l other cfg pk (L++[w]) (AP 14 (L++[w])) [] (L++[w]).length 0)):
 Ad E0 11 AE L8 (gj l other la lb lc cfg pk L rowk (HE 15 17 L w.length []) w len (CT 16 (L++[w]).length) (CT 17 w.length) 0):=by
 have g16:(gj l other la lb lc cfg pk L rowk (HE 15 17 L w.length []) w len (CT 16 (L++[w]).length) (CT 17 w.length) 0).H.get 16=some (.vec [.tok] (HE 15 17 L w.length []) false):=by kernel_rfl
 have g15:(gj l other la lb lc cfg pk L rowk (HE 15 17 L w.length []) w len (CT 16 (L++[w]).length) (CT 17 w.length) 0).H.get 15=some (.abs (.mem AR (L.map some)) false):=by kernel_rfl
 refine BC.frozen (X:=E0) 12 124 (a:=15) (y:=16) (z:=17) (m1:=(L++[w]).length) (c1:=AF) (m2:=w.length) (c2:=AF) (L:=L) (l:=w) rfl rfl rfl rfl (Ln g16 g15 hne (by decide)) g15 g16 (by kernel_rfl) ?_;refine BC.WM (X:=E0) 16 3 AR (b:=10) (o:=0) (m:=other.length) (cap:=AF) (s:=some 0) rfl rfl rfl (by decide) ?_;refine Im (X:=E0) (N:=11) (M:=11) (Nat.le_refl _) (Ks:=[9,10,12,13,16,18,19]) (ids:=[12,13,16,18,19]) (live:=[3,9,12,16,17]) (by kernel_rfl) (c':=OO l other cfg pk (L++[w]) (List.map (IM (Gx 11 [12,13,16,18,19])) (AP 18 (L++[w]))) [] (L++[w]).length 0) (by kernel_rfl) ?_;rw[show List.map (IM (Gx 11 [12,13,16,18,19])) (AP 18 (L++[w]))=AP 14 (L++[w])from KQ (fun _ _=>rfl) 0 (L++[w])];exact Ad.lower (by decide) h
theorem Qx (hne:L≠[]) (h:Ad E0 15 AE L8 (RF l other cfg m del uk uv (L++[w]) (AP 14 (L++[w])) [] (L++[w]).length 0)):
 Ad E0 11 AE L8 (eP l other la lb lc cfg m del uk uv L rowk (HE 15 17 L w.length []) w len (CT 16 (L++[w]).length) (CT 17 w.length) 0):=by
 have g16:(eP l other la lb lc cfg m del uk uv L rowk (HE 15 17 L w.length []) w len (CT 16 (L++[w]).length) (CT 17 w.length) 0).H.get 16=some (.vec [.tok] (HE 15 17 L w.length []) false):=by kernel_rfl
 have g15:(eP l other la lb lc cfg m del uk uv L rowk (HE 15 17 L w.length []) w len (CT 16 (L++[w]).length) (CT 17 w.length) 0).H.get 15=some (.abs (.mem AR (L.map some)) false):=by kernel_rfl
 refine BC.frozen (X:=E0) 12 124 (a:=15) (y:=16) (z:=17) (m1:=(L++[w]).length) (c1:=AF) (m2:=w.length) (c2:=AF) (L:=L) (l:=w) rfl rfl rfl rfl (Ln g16 g15 hne (by decide)) g15 g16 (by kernel_rfl) ?_;refine BC.WM (X:=E0) 16 3 AR (b:=10) (o:=0) (m:=other.length) (cap:=AF) (s:=some 0) rfl rfl rfl (by decide) ?_;refine Im (X:=E0) (N:=11) (M:=11) (Nat.le_refl _) (Ks:=[9,10,12,13,16,22,23,18,19,20,21]) (ids:=[12,13,16,22,23,18,19,20,21]) (live:=[3,9,12,16,17]) (by kernel_rfl) (c':=RF l other cfg m del uk uv (L++[w]) (List.map (IM (Gx 11 [12,13,16,22,23,18,19,20,21])) (AP 22 (L++[w]))) [] (L++[w]).length 0) (by kernel_rfl) ?_;rw[show List.map (IM (Gx 11 [12,13,16,22,23,18,19,20,21])) (AP 22 (L++[w]))=AP 14 (L++[w])from KQ (fun _ _=>rfl) 0 (L++[w])];exact Ad.lower (by decide) h
theorem Q5:Eg E0 XI:=Ap (gH (by kernel_rfl)) (Ap (fun args H K h=>KW (F:=Al AL 9 [] Jj) (by kernel_rfl) (fun _ _ _ h=>DA h) args H K h) (A6 _))
theorem Ul (h:Tl m (BT m.base m.AJ) L) (hin:∀x∈other,Px x) (hol:other.length<=20):∀(q j:Nat) (sm:List (EK.C AR)),other.length - j=q->j<=other.length->A5 sm->sm.length<=j->
 Ad E0 15 AE L8 (OO l other cfg (.model (At m 2 false)) L (AP 14 L) sm L.length j):=by
 have hfin:∀(j:Nat) (sm:List (EK.C AR)),j<=other.length->sm.length<=j->(∀(hlt:j < other.length),Ad E0 15 AE L8 (OO l other cfg (.model (At m 2 false)) L (AP 14 L) (Ar sm (aK other[j].1) (aS other[j].1 other[j].2.1) (aV other[j].1 other[j].2.2)) L.length (j+1:Nat)))->
  Ad E0 15 AE L8 (OO l other cfg (.model (At m 2 false)) L (AP 14 L) sm L.length j):=by
  intro j sm hj hl hnx;refine LZ Q5 (ids:=[]) (S:=bF) (S2:=MB) (b:=2) (b2:=4) (ks:=[]) (by kernel_rfl) rfl rfl (Q:=fun _ _=>False) (R:=fun c=>∃(hlt:j < other.length),c=OO l other cfg (.model (At m 2 false)) L (AP 14 L) (Ar sm (aK other[j].1) (aS other[j].1 other[j].2.1) (aV other[j].1 other[j].2.2)) L.length (j+1:Nat)) (R2:=fun c=>c=OH l other cfg (.model (At m 2 false)) L (AP 14 L) sm L.length (KN L sm 0) (0:Nat)) (fun v H h=>h.elim) (fun c ⟨hlt,hc⟩=>by rw[hc];exact hnx hlt) (fun c hc=>by rw[hc];exact cV h (by omega) L.length 0 (by omega) (by omega)) 600 _ ?_;rw[iS,HI,HI];refine AU (fun hh=>?_) (fun _=>rfl);have hlt:j < other.length:=by
   have hh:(j:Int) < (other.length:Int):=hh;omega
  have hx:=hin other[j] (List.getElem_mem hlt);rw[Ci hlt,Bv (by omega)];exact AH (ca hlt) (AH (cb hlt) ⟨hx,⟨⟨rfl,rfl⟩,by omega⟩,hlt,rfl⟩)
 intro q;induction q with
 | zero=>intro j sm hq hj hs hl;exact hfin j sm hj hl fun hlt=>by omega
 | succ q ih=>intro j sm hq hj hs hl;exact hfin j sm hj hl fun hlt=>ih (j+1) _ (by omega) (by omega) (FY hs _ _ _).1 (by have:=(FY hs (aK other[j].1) (aS other[j].1 other[j].2.1) (aV other[j].1 other[j].2.2)).2;omega)
theorem Ub (h:Tl m (BT m.base (m.AJ++[(del,uk,uv)])) L) (hin:∀x∈other,Px x) (hol:other.length<=20):∀(q j:Nat) (sm:List (EK.C AR)),other.length - j=q->j<=other.length->A5 sm->sm.length<=j->
 Ad E0 15 AE L8 (RF l other cfg (At m 2 false) del uk uv L (AP 14 L) sm L.length j):=by
 have hfin:∀(j:Nat) (sm:List (EK.C AR)),j<=other.length->sm.length<=j->(∀(hlt:j < other.length),Ad E0 15 AE L8 (RF l other cfg (At m 2 false) del uk uv L (AP 14 L) (Ar sm (aK other[j].1) (aS other[j].1 other[j].2.1) (aV other[j].1 other[j].2.2)) L.length (j+1:Nat)))->
  Ad E0 15 AE L8 (RF l other cfg (At m 2 false) del uk uv L (AP 14 L) sm L.length j):=by
  intro j sm hj hl hnx;refine LZ Q5 (ids:=[]) (S:=bF) (S2:=MB) (b:=2) (b2:=4) (ks:=[]) (by kernel_rfl) rfl rfl (Q:=fun _ _=>False) (R:=fun c=>∃(hlt:j < other.length),c=RF l other cfg (At m 2 false) del uk uv L (AP 14 L) (Ar sm (aK other[j].1) (aS other[j].1 other[j].2.1) (aV other[j].1 other[j].2.2)) L.length (j+1:Nat)) (R2:=fun c=>c=OX l other cfg (At m 2 false) del uk uv L (AP 14 L) sm L.length (KN L sm 0) (0:Nat)) (fun v H h=>h.elim) (fun c ⟨hlt,hc⟩=>by rw[hc];exact hnx hlt) (fun c hc=>by rw[hc];exact bY h (by omega) L.length 0 (by omega) (by omega)) 600 _ ?_;rw[iT,HI,HI];refine AU (fun hh=>?_) (fun _=>rfl);have hlt:j < other.length:=by
   have hh:(j:Int) < (other.length:Int):=hh;omega
  have hx:=hin other[j] (List.getElem_mem hlt);rw[Ci hlt,Bv (by omega)];exact AH (ca hlt) (AH (cb hlt) ⟨hx,⟨⟨rfl,rfl⟩,by omega⟩,hlt,rfl⟩)
 intro q;induction q with
 | zero=>intro j sm hq hj hs hl;exact hfin j sm hj hl fun hlt=>by omega
 | succ q ih=>intro j sm hq hj hs hl;exact hfin j sm hj hl fun hlt=>ih (j+1) _ (by omega) (by omega) (FY hs _ _ _).1 (by have:=(FY hs (aK other[j].1) (aS other[j].1 other[j].2.1) (aV other[j].1 other[j].2.2)).2;omega)
end
theorem HP (w:Nat) (x:Value) (cur:List (EK.C AR)) (k:Int) (s v:ByteArray):Eg E0 (M5 w x cur k s v):=Ap (Ux (by kernel_rfl)) (Ap (fun _ _ _ h=>cR (by kernel_rfl) _ _ _ h) (Ap (fun _ _ _ h=>Us (by kernel_rfl) _ _ _ h)
 (Ap (F7 fun args H K h=>KX (F:=Al AL 9 [] Jj) (by kernel_rfl) (fun _ _ _ h=>DA h) args H K h) (Ap (fun args H K h=>KW (F:=Al AL 9 [] Jb) (by kernel_rfl) (fun _ _ _ h=>DA h) args H K h) (Ap (fun _ _ _ h=>h.elim) (A6 _))))))
theorem U0:Eg E0 gK:=Ap (fun _ _ _ h=>A9 (by kernel_rfl) h) (Ap (fun _ _ _ h=>A9 (by kernel_rfl) h) (Ap (fun _ _ _ h=>h.elim) (A6 _)))
theorem UH (z:Nat):∀(j:Nat) (L:List (List (EK.C AR))),(A2 [SK.tok] (D9 z j L)).all Bh=true
 | _,[]=>rfl
 | j,l::L=>by
  show(A2 [SK.tok] (Value.slice (some ⟨z,1,some j⟩) l.length AF::D9 z (j+1) L)).all Bh=true;rw[Cw,List.all_append,UH z (j+1) L];rfl
section
variable {m:AB} {L:List (List (EK.C AR))} {cfg:List Int} {l other:List (EK.C Bq)} {la lb lc:Int} {i n:Nat}
theorem PI (hn:L.length=n+1):(A2 [SK.tok] (List.take (Nat.succ n) (List.drop 0 (AP 15 L)))).all Bh=true:=by
 rw[List.drop_zero,List.take_of_length_le (by rw[Cd,hn];exact Nat.le_refl _)];exact UH 15 0 L
theorem Wf (hn:L.length=n+1):Nat.ble (0+Nat.succ n) (List.length (AP 15 L))=true:=Nat.ble_eq_true_of_le (by rw[Cd,hn];omega)
theorem Wd (h:n<=60):BK 24 (0+Nat.succ n)=true:=by
 unfold BK;rw[Nat.ble_eq_true_of_le (by omega),Nat.ble_eq_true_of_le (by omega)];rfl
theorem eA (h:n<=60) (hn:L.length=n+1):(true&&Nat.ble (0+(0+Nat.succ n)) (List.length ([]++List.take (Nat.succ n) (List.drop 0 (AP 15 L))))&&BK 24 (0+Nat.succ n+1))=true:=by
 rw[List.nil_append,List.drop_zero,List.take_of_length_le (by rw[Cd,hn];exact Nat.le_refl _),Nat.ble_eq_true_of_le (by rw[Cd,hn];omega)];unfold BK;rw[Nat.ble_eq_true_of_le (by omega),Nat.ble_eq_true_of_le (by omega)];rfl
theorem E1.GV (h:E1 cfg m L i):m.cfg.length=7:=by
 obtain⟨s6,_,_,_,hmc,_⟩:=h.inv.s;rw[hmc];rfl
theorem WR (h:m.cfg.length=7):ZU (At m 0 false) 7 5 0 { data:=#[] } { data:=#[48] } 0 { data:=#[] }:=⟨h,.YW,rfl,.inl rfl,rfl,rfl,.inr ⟨rfl,by decide⟩⟩
theorem iU (h:m.cfg.length=7):ZU (At (At m 0 false) 0 true) 7 0 0 { data:=#[] } { data:=#[48] } 0 { data:=#[] }:=⟨h,.YT,rfl,.inl rfl,rfl,rfl,.inl rfl⟩
theorem jU (h:m.cfg.length=7):YX (At (At (At m 0 false) 0 true) 1 false) 5 0 0 { data:=#[] } { data:=#[] } 0 { data:=#[] }:=⟨h,.step,rfl,.inr rfl,rfl,rfl⟩
theorem aB (h:m.cfg.length=7):YX (At (At (At m 0 false) 0 true) 1 false) 8 0 0 { data:=#[] } { data:=#[] } 0 { data:=#[] }:=⟨h,.Pn,rfl,.inl rfl,rfl,rfl⟩
theorem jT (k:Int) (hk:k=5∨k=8):gg (AB.state (At (At (At m 0 false) 0 true) 1 false)) k 0 0 { data:=#[] } { data:=#[] } 0 { data:=#[] }:=⟨rfl,hk,rfl,rfl,rfl,rfl,rfl,rfl⟩
theorem gh {w:Nat} {k:Int} {s v:ByteArray} (h:E1 cfg m L i) (hi:i<=60) (hg:EL k 0 0 s v) (h7:k≠7) {we:Int} {wv:ByteArray} {u:Bool} (ha:CI m k s v=(we,wv,u)) (hw:w < 3) (h0:w=0->(!(we != 0)&& !(k==2))=false) (h1:w=1->(!(we != 0)&& !(k==2))=true/\u=false)
 (h2:w=2->(!(we != 0)&& !(k==2))=true/\u=true):dj w (At (At m 0 false) 0 true) k 0 0 s v 13 { data:=#[] }:=by
 have e:CI (At (At m 0 false) 0 true) k s v=(we,wv,u):=ha;have hb:P4 (At (At m 0 false) 0 true) k s v=(!(we != 0)&& !(k==2)):=by unfold P4;rw[e]
 have hu:Wh (At (At m 0 false) 0 true) k s v=((!(we != 0)&& !(k==2))&&u):=by unfold Wh;rw[hb,e]
 refine⟨⟨h.GV,rfl,rfl,hg.ok,Em hg,h7,?_,?_,rfl,rfl⟩,fun hh=>by rw[hb];exact h0 hh,fun hh=>?_,fun hh=>?_,hw⟩
 ·show A5 m.now;rw[h.inv.now];exact h.inv.sorted
 ·show m.now.length < 900000;rw[h.inv.now];have:=h.inv.len;omega
 ·obtain⟨e1,e2⟩:=h1 hh;rw[hb,hu,e1,e2];exact⟨rfl,rfl⟩
 ·obtain⟨e1,e2⟩:=h2 hh;rw[hu,e1,e2];rfl
theorem E1.gR (h:E1 cfg m L i) (hn:L.length=n+1):n<=i:=by
 have:=h.inv.Iu;omega
theorem E1.cur (h:E1 cfg m L i) (hn:L.length=n+1):L[n]? = some (A3 L):=by
 have:=K3 h.ne
 rwa [hn,Nat.add_sub_cancel]at this
theorem E1.tl (h:E1 cfg m L i) (hi:i<=60) {L2:List (List (EK.C AR))} (hs:∀x,x∈L2 ↔ x∈L) (hl:L2.length<=1000):Tl m (BT m.base m.AJ) L2:=by
 have hb:m.base∈L:=by
  rw[<-h.pre];cases m.AJ<;>(unfold BT;simp)
 have hno:=h.inv.now;have hnl:=h.inv.len;have hu:=h.inv.AJ;have:=h.inv.Iu;refine⟨h.GV,?_,by rw[hno];omega,by omega,⟨by rw[h.pre];exact h.JT,fun x=>by rw[h.pre];exact hs x,by omega,fun x hx=>?_⟩⟩
 ·obtain⟨_,h2,_⟩:=h.sm _ hb;omega
 ·obtain⟨_,h2,_⟩:=h.sm _ ((hs x).1 hx);omega
theorem E1.up (h:E1 cfg m L i) (hi:i<=60) (h4:(aK la==4)=false) (hu:(Cc cfg (A3 L) (aK la) (aS la lb) (aV la lc)).2.2=true):
 Tl m (BT m.base (m.AJ++[((aK la==3),aS la lb,aV la lc)])) (L++[Ar (A3 L) (aK la) (aS la lb) (aV la lc)]):=by
 obtain⟨_,hk,_,_⟩:=Dt la lb lc;have h2:=h.act (kind:=la) (key:=lb) (val:=lc) (by omega);have hL:Gg cfg L la lb lc=L++[Ar (A3 L) (aK la) (aS la lb) (aV la lc)]:=by
  unfold Gg JU;rw[h4,hu];rfl
 have hp:BT m.base (m.AJ++[((aK la==3),aS la lb,aV la lc)])=L++[Ar (A3 L) (aK la) (aS la lb) (aV la lc)]:=by
  have e:=h2.pre;rw[hL]at e;unfold dI Na at e;have hf:∀x:AB,JW (aK la) x=x:=fun x=>by
   have h8:(aK la==8)=false:=by rcases hk with e | e | e | e<;>rw[e]<;>rfl
   unfold JW;rw[h4,h8];rfl
  rw[hf,hu]at e;exact e
 have t:=h.tl hi (L2:=L) (fun _=>Iff.rfl) (by have:=h.inv.Iu;have:=h.inv.le;omega);refine⟨t.cfg,t.nb,t.nn,t.nu,⟨by rw[hp,<-hL];exact h2.JT,fun x=>by rw[hp],?_,fun x hx=>?_⟩⟩
 ·rw[List.length_append,List.length_singleton];have:=h.inv.Iu;omega
 ·rw[<-hL]at hx;obtain⟨_,h3,_⟩:=h2.sm x hx;omega
end
section
variable {m:AB} {L:List (List (EK.C AR))} {s:Int} {l other:List (EK.C Bq)} {la lb lc:Int} {i n:Nat}
theorem eE (hn:L.length=n+1):Value.slice (some ⟨16,0,some 0⟩) (0+Nat.succ n) 18446744073709551616=CT 16 L.length:=by
 rw[EH,hn];show Value.slice _ (0+(n+1)) _=_;rw[Nat.zero_add];rfl
theorem gF (hn:L.length=n+1) (w:List (EK.C AR)):Value.slice (some ⟨16,0,some 0⟩) (0+Nat.succ n+1) 18446744073709551616=CT 16 (L++[w]).length:=by
 rw[EH,List.length_append,List.length_singleton,hn];show Value.slice _ (0+(n+1)+1) _=_;rw[Nat.zero_add];rfl
theorem gA (k:Nat):Value.slice (some ⟨17,0,some 0⟩) k 18446744073709551616=CT 17 k:=by rw[EH];rfl
theorem Tc (h:E1 (Cg s) m L i) (hi:i<=60) (hin:∀x∈other,Px x) (hol:other.length<=20):Ad E0 11 AE L8 (dV l other la lb lc (Cg s) (.model (At m 2 false)) L (HT [18] L) (AP 15 L) (Nat.succ n) (CT 16 L.length) 0):=
 X9 (Ul (h.tl hi (fun _=>Iff.rfl) (by have:=h.inv.Iu;omega)) hin hol other.length 0 [] (by omega) (by omega) List.Pairwise.nil (Nat.le_refl _))
theorem Uh (h:E1 (Cg s) m L i) (hi:i<=60) (k:Int):Dz (Ar (A3 L) k (aS la lb) (aV la lc)):=by
 obtain⟨_,_,hs,hv⟩:=Dt la lb lc;obtain⟨hso,hlen,hsm⟩:=h.sm _ (JR h.ne);have hw:=FY hso k (aS la lb) (aV la lc);refine⟨by omega,fun x hx=>?_⟩;have key:∀y∈Ar (A3 L) k (aS la lb) (aV la lc),y∈A3 L∨y=(aS la lb,aV la lc):=fun y hy=>by
  cases hk:k==1
  ·have e:Ar (A3 L) k (aS la lb) (aV la lc)=Ar (A3 L) 3 (aS la lb) (aV la lc):=by unfold Ar;rw[hk];rfl
   rw[e]at hy;obtain⟨_,_,_,h4,_⟩:=JP hso (aS la lb) (aV la lc);exact .inl (h4 y hy)
  ·have e:k=1:=by simpa using hk
   subst e;obtain⟨_,_,_,h4,_⟩:=JE hso (aS la lb) (aV la lc);exact h4 y hy
 rcases key x hx with hy | rfl
 ·have:=hsm x hy;omega
 ·exact⟨by show(aS la lb).size < _;omega,by show(aV la lc).size < _;omega⟩
variable (h:E1 (Cg s) m L i) (hi:i<=60) (hn:L.length=n+1) (hb:DJ la/\DJ lb/\DJ lc) (hin:∀x∈other,Px x) (hol:other.length<=20)
include h hi hn hb hin hol
theorem kn (hk:aK la=4):Ad E0 11 AE L8 (Kc l other la lb lc (Cg s) (.model (At m 0 false)) L (AP 15 L) (Nat.succ n) l.length):=by
 have h60:n<=60:=by have:=h.gR hn;omega
 obtain⟨hg,_,hs,hv⟩:=Dt la lb lc;rw[hk]at hg;refine JD (HP 1 (Fp n (A3 L)) (A3 L) 4 (aS la lb) (aV la lc)) (ids:=[]) (M:=11) (S:=Lv) (S2:=Lv) (b:=2) (b2:=0) (ks:=[]) (by kernel_rfl) (by decide) (by decide) (Q:=fun _ _=>False) (R:=fun c=>c=dV l other la lb lc (Cg s) (.model (At m 2 false)) L (HT [18] L) (AP 15 L) (Nat.succ n) (CT 16 L.length) 0) (R2:=fun _=>False)
  (fun v H h=>h.elim) (fun c hc=>by rw[hc];exact Tc h hi hin hol) (fun c h=>h.elim) 900 _ ?_
 rw[cD,My _ hn,eE hn];exact AU (fun hh=>absurd hh (Int.lt_irrefl _)) (fun _=>⟨⟨hb,hk,rfl,rfl⟩,AH (PI hn) (AH (Wf hn) (AH (Wd h60) ⟨WR h.GV,gh h hi hg (by decide) (we:=0) (wv:=e0) (u:=false) rfl (by decide) (fun e=>by cases e) (fun _=>⟨rfl,rfl⟩) (fun e=>by cases e),jU h.GV,aB h.GV,rfl⟩))⟩)
theorem ko (hk:aK la=2):Ad E0 11 AE L8 (Kc l other la lb lc (Cg s) (.model (At m 0 false)) L (AP 15 L) (Nat.succ n) l.length):=by
 have h60:n<=60:=by have:=h.gR hn;omega
 obtain⟨hg,_,hs,hv⟩:=Dt la lb lc;rw[hk]at hg;refine JD (HP 0 (Fp n (A3 L)) (A3 L) 2 (aS la lb) (aV la lc)) (ids:=[]) (M:=11) (S:=Lv) (S2:=Lv) (b:=2) (b2:=0) (ks:=[]) (by kernel_rfl) (by decide) (by decide) (Q:=fun _ _=>False) (R:=fun c=>c=dV l other la lb lc (Cg s) (.model (At m 2 false)) L (HT [18] L) (AP 15 L) (Nat.succ n) (CT 16 L.length) 0) (R2:=fun _=>False)
  (fun v H h=>h.elim) (fun c hc=>by rw[hc];exact Tc h hi hin hol) (fun c h=>h.elim) 900 _ ?_
 rw[Zn,My _ hn,eE hn];obtain⟨we,wv,u,ha⟩:∃we wv u,CI m 2 (aS la lb) (aV la lc)=(we,wv,u):=⟨_,_,_,rfl⟩
 exact AU (fun hh=>absurd hh (Int.lt_irrefl _)) (fun _=>⟨⟨hb,hk,rfl,rfl⟩,AH (PI hn) (AH (Wf hn) (AH (Wd h60) ⟨WR h.GV,gh h hi hg (by decide) ha (by decide) (fun _=>by simp) (fun e=>by cases e) (fun e=>by cases e),iU h.GV,jU h.GV,aB h.GV,rfl⟩))⟩)
theorem jg (hk:aK la=1) (ho:Ij (Cg s) (A3 L) (aS la lb) (aV la lc)=true):Ad E0 11 AE L8 (Kc l other la lb lc (Cg s) (.model (At m 0 false)) L (AP 15 L) (Nat.succ n) l.length):=by
 have h60:n<=60:=by have:=h.gR hn;omega
 have h1:n < 1000000:=by omega
 have hM:=h.cur hn;have hcl:(A3 L).length < 400000:=by have:=h.inv.len;omega
 obtain⟨hg,_,hs,hv⟩:=Dt la lb lc;rw[hk]at hg;have ha:CI m 1 (aS la lb) (aV la lc)=(4,e0,false):=by rw[KJ h.inv hs hv,ho];rfl
 have hsm:=Uh h hi (la:=la) (lb:=lb) (lc:=lc) 1;refine JD (HP 0 (Fp n (A3 L)) (A3 L) 1 (aS la lb) (aV la lc)) (ids:=[]) (M:=11) (S:=Lv) (S2:=Lv) (b:=2) (b2:=0) (ks:=[]) (by kernel_rfl) (by decide) (by decide) (Q:=fun _ _=>False) (R:=fun c=>c=dV l other la lb lc (Cg s) (.model (At m 2 false)) L (HT [18] L) (AP 15 L) (Nat.succ n) (CT 16 L.length) 0) (R2:=fun _=>False)
  (fun v H h=>h.elim) (fun c hc=>by rw[hc];exact Tc h hi hin hol) (fun c h=>h.elim) 900 _ ?_
 rw[YI,My _ hn,eE hn];exact AU (fun hh=>absurd hh (Int.lt_irrefl _)) (fun _=>⟨⟨hb,hk,rfl,rfl⟩,AH (PI hn) (AH (Wf hn) (AH (Wd h60) ⟨WR h.GV,gh h hi hg (by decide) ha (by decide) (fun _=>rfl) (fun e=>by cases e) (fun e=>by cases e),
  AH (Ej h1) (AH (Di h1 hn hM) ⟨rfl,rfl,En h1 hM,CK hM,⟨⟨rfl,rfl⟩,hcl⟩,⟨rfl,rfl⟩,rfl,⟨⟨rfl,rfl⟩,hsm⟩,rfl,AH ho ⟨iU h.GV,jU h.GV,aB h.GV,rfl⟩⟩)⟩))⟩)
theorem j8 (hk:aK la=3) (hv0:(C5 (A3 L) (aS la lb)).isSome=false):Ad E0 11 AE L8 (Kc l other la lb lc (Cg s) (.model (At m 0 false)) L (AP 15 L) (Nat.succ n) l.length):=by
 have h60:n<=60:=by have:=h.gR hn;omega
 have h1:n < 1000000:=by omega
 have hM:=h.cur hn;have hcl:(A3 L).length < 400000:=by have:=h.inv.len;omega
 obtain⟨hg,_,hs,hv⟩:=Dt la lb lc;rw[hk]at hg;have ha:CI m 3 (aS la lb) (aV la lc)=(0,e0,false):=by rw[KJ h.inv hs hv,hv0];rfl
 have hat:DZ (A3 L) (aS la lb)=none:=by
  rw[<-Nt h.inv.sorted];cases hq:C5 (A3 L) (aS la lb)with
  | none=>rfl
  | some x=>rw[hq]at hv0;cases hv0
 have hw:Ar (A3 L) 3 (aS la lb) (aV la lc)=A3 L:=by
  rw[<-(JP h.inv.sorted (aS la lb) (aV la lc)).1];unfold E4;rw[hat]
 refine JD (HP 1 (Fp n (A3 L)) (A3 L) 3 (aS la lb) (aV la lc)) (ids:=[]) (M:=11) (S:=IH) (S2:=IH) (b:=2) (b2:=0) (ks:=[]) (by kernel_rfl) (by decide) (by decide) (Q:=fun _ _=>False)
  (R:=fun c=>c=gj l other la lb lc (Cg s) (.model (At m 2 false)) L (HT [23,21] L) (HE 15 17 L (A3 L).length []) (A3 L) (Nat.succ n) (CT 16 (L++[A3 L]).length) (CT 17 (A3 L).length) 0) (R2:=fun _=>False)
  (fun v H h=>h.elim) (fun c hc=>?_) (fun c h=>h.elim) 900 _ ?_
 ·rw[hc];refine XF h.ne (Ul (h.tl hi (fun x=>?_) (by rw[List.length_append,List.length_singleton];omega)) hin hol other.length 0 [] (by omega) (by omega) List.Pairwise.nil (Nat.le_refl _));rw[List.mem_append,List.mem_singleton];exact⟨fun hx=>hx.elim id fun e=>by rw[e];exact JR h.ne,.inl⟩
 ·rw[X7,hw,NR _ hn _ rfl,gF hn (A3 L),gA];exact AU (fun hh=>absurd hh (Int.lt_irrefl _)) (fun _=>⟨⟨hb,hk,rfl,rfl⟩,AH (PI hn) (AH (Wf hn) (AH (Wd h60) ⟨WR h.GV,gh h hi hg (by decide) ha (by decide) (fun e=>by cases e) (fun _=>⟨rfl,rfl⟩) (fun e=>by cases e),
   AH (Ej h1) (AH (Di h1 hn hM) ⟨rfl,rfl,En h1 hM,CK hM,⟨⟨rfl,rfl⟩,hcl⟩,⟨rfl,rfl⟩,rfl,AH (eA h60 hn) ⟨jU h.GV,aB h.GV,rfl⟩⟩)⟩))⟩)
theorem jj (hk:aK la=3) (hv1:(C5 (A3 L) (aS la lb)).isSome=true):Ad E0 11 AE L8 (Kc l other la lb lc (Cg s) (.model (At m 0 false)) L (AP 15 L) (Nat.succ n) l.length):=by
 have h60:n<=60:=by have:=h.gR hn;omega
 have h1:n < 1000000:=by omega
 have hM:=h.cur hn;have hcl:(A3 L).length < 400000:=by have:=h.inv.len;omega
 obtain⟨hg,_,hs,hv⟩:=Dt la lb lc;rw[hk]at hg;have ha:CI m 3 (aS la lb) (aV la lc)=(0,e0,true):=by rw[KJ h.inv hs hv,hv1];rfl
 have hup:=h.up hi (la:=la) (lb:=lb) (lc:=lc) (by rw[hk];rfl) (by rw[hk];exact hv1);rw[hk]at hup;refine JD (HP 2 (Fp n (A3 L)) (A3 L) 3 (aS la lb) (aV la lc)) (ids:=[]) (M:=11) (S:=IH) (S2:=IH) (b:=2) (b2:=0) (ks:=[]) (by kernel_rfl) (by decide) (by decide) (Q:=fun _ _=>False)
  (R:=fun c=>c=eP l other la lb lc (Cg s) (At m 2 false) true (aS la lb) (aV la lc) L (HT [27,25,20,21,22,23] L) (HE 15 17 L (Ar (A3 L) 3 (aS la lb) (aV la lc)).length []) (Ar (A3 L) 3 (aS la lb) (aV la lc)) (Nat.succ n) (CT 16 (L++[Ar (A3 L) 3 (aS la lb) (aV la lc)]).length) (CT 17 (Ar (A3 L) 3 (aS la lb) (aV la lc)).length) 0) (R2:=fun _=>False)
  (fun v H h=>h.elim) (fun c hc=>?_) (fun c h=>h.elim) 900 _ ?_
 ·rw[hc];exact Qx h.ne (Ub hup hin hol other.length 0 [] (by omega) (by omega) List.Pairwise.nil (Nat.le_refl _))
 ·rw[ZI,NR _ hn _ rfl,gF hn (Ar (A3 L) 3 (aS la lb) (aV la lc)),gA];exact AU (fun hh=>absurd hh (Int.lt_irrefl _)) (fun _=>⟨⟨hb,hk,rfl,rfl⟩,AH (PI hn) (AH (Wf hn) (AH (Wd h60) ⟨WR h.GV,gh h hi hg (by decide) ha (by decide) (fun e=>by cases e) (fun e=>by cases e) (fun _=>⟨rfl,rfl⟩),
   AH (Ej h1) (AH (Di h1 hn hM) ⟨rfl,rfl,En h1 hM,CK hM,⟨⟨rfl,rfl⟩,hcl⟩,⟨rfl,rfl⟩,rfl,AH (eA h60 hn) ⟨⟨rfl,rfl⟩,⟨⟨rfl,rfl⟩,jT 5 (.inl rfl)⟩,⟨⟨rfl,rfl⟩,jT 8 (.inr rfl)⟩,⟨rfl,rfl⟩,rfl⟩⟩)⟩))⟩)
theorem kC (hk:aK la=1) (ho:Ij (Cg s) (A3 L) (aS la lb) (aV la lc)=false):Ad E0 11 AE L8 (Kc l other la lb lc (Cg s) (.model (At m 0 false)) L (AP 15 L) (Nat.succ n) l.length):=by
 have h60:n<=60:=by have:=h.gR hn;omega
 have h1:n < 1000000:=by omega
 have hM:=h.cur hn;have hcl:(A3 L).length < 400000:=by have:=h.inv.len;omega
 obtain⟨hg,_,hs,hv⟩:=Dt la lb lc;rw[hk]at hg;have ha:CI m 1 (aS la lb) (aV la lc)=(0,e0,true):=by rw[KJ h.inv hs hv,ho];rfl
 have hsm:=Uh h hi (la:=la) (lb:=lb) (lc:=lc) 1;have hup:=h.up hi (la:=la) (lb:=lb) (lc:=lc) (by rw[hk];rfl) (by rw[hk];unfold Cc;rw[ho];rfl);rw[hk]at hup;refine JD (HP 2 (Fp n (A3 L)) (A3 L) 1 (aS la lb) (aV la lc)) (ids:=[]) (M:=11) (S:=IH) (S2:=IH) (b:=2) (b2:=0) (ks:=[]) (by kernel_rfl) (by decide) (by decide) (Q:=fun _ _=>False)
  (R:=fun c=>c=eP l other la lb lc (Cg s) (At m 2 false) false (aS la lb) (aV la lc) L (HT [29,27,20,21,22,23] L) (HE 15 17 L (Ar (A3 L) 1 (aS la lb) (aV la lc)).length []) (Ar (A3 L) 1 (aS la lb) (aV la lc)) (Nat.succ n) (CT 16 (L++[Ar (A3 L) 1 (aS la lb) (aV la lc)]).length) (CT 17 (Ar (A3 L) 1 (aS la lb) (aV la lc)).length) 0) (R2:=fun _=>False)
  (fun v H h=>h.elim) (fun c hc=>?_) (fun c h=>h.elim) 900 _ ?_
 ·rw[hc];exact Qx h.ne (Ub hup hin hol other.length 0 [] (by omega) (by omega) List.Pairwise.nil (Nat.le_refl _))
 ·rw[ZZ,NR _ hn _ rfl,gF hn (Ar (A3 L) 1 (aS la lb) (aV la lc)),gA];exact AU (fun hh=>absurd hh (Int.lt_irrefl _)) (fun _=>⟨⟨hb,hk,rfl,rfl⟩,AH (PI hn) (AH (Wf hn) (AH (Wd h60) ⟨WR h.GV,gh h hi hg (by decide) ha (by decide) (fun e=>by cases e) (fun e=>by cases e) (fun _=>⟨rfl,rfl⟩),
   AH (Ej h1) (AH (Di h1 hn hM) ⟨rfl,rfl,En h1 hM,CK hM,⟨⟨rfl,rfl⟩,hcl⟩,⟨rfl,rfl⟩,rfl,⟨⟨rfl,rfl⟩,hsm⟩,rfl,EW ho
    (AH (Ej h1) (AH (Di h1 hn hM) ⟨rfl,rfl,En h1 hM,CK hM,⟨⟨rfl,rfl⟩,hcl⟩,⟨rfl,rfl⟩,rfl,AH (eA h60 hn) ⟨⟨rfl,rfl⟩,⟨⟨rfl,rfl⟩,jT 5 (.inl rfl)⟩,⟨⟨rfl,rfl⟩,jT 8 (.inr rfl)⟩,⟨rfl,rfl⟩,rfl⟩⟩))⟩)⟩))⟩)
end
section
variable {m:AB} {L:List (List (EK.C AR))} {cfg:List Int} {s:Int} {l other:List (EK.C Bq)} {la lb lc:Int}
theorem Xd (i:Int):∀x,15<=x->(LA l other la lb lc cfg (.model m) (.Co L) L.length i).H.get x=none:=by
 intro x hx;show(((((((⟨.leaf,9⟩:AA).alloc _).alloc _).alloc _).alloc _).alloc _).alloc _).get x=none;rw[AA.AW,if_neg (by show x≠14;omega),AA.AW,if_neg (by show x≠13;omega),AA.AW,if_neg (by show x≠12;omega),AA.AW,if_neg (by show x≠11;omega),AA.AW,if_neg (by show x≠10;omega),AA.AW,if_neg (by show x≠9;omega),Io]
theorem TY (i:Int):Am (LA l other la lb lc cfg (.model m) (.Co L) L.length i).H 0 200 [12] []=[12,13,14]:=by kernel_rfl
theorem WJ (i:Int):((LA l other la lb lc cfg (.model m) (.Co L) L.length i).H.put 14 (.vec [.tok] (AP 15 L) false)).alloc (.abs (.mem AR (L.map some)) false)=(Kc l other la lb lc cfg (.model m) L (AP 15 L) L.length i).H:=by kernel_rfl
theorem jl {i:Nat} (h:E1 (Cg s) m L i) (hi:i<=60) (hb:DJ la/\DJ lb/\DJ lc) (hin:∀x∈other,Px x) (hol:other.length<=20):Ad E0 11 AE L8 (LA l other la lb lc (Cg s) (.model m) (.Co L) L.length l.length):=by
 refine BC.bT (X:=E0) (a:=12) (o:=0) (q:=none) (b:=14) (s:= .Co L) (ro:=false) 9 rfl (by kernel_rfl) (by show 14∈Am (LA l other la lb lc (Cg s) (.model m) (.Co L) L.length l.length).H 0 200 [12] [];rw[TY];simp) (by kernel_rfl) fun objs hr=>?_
 cases hr with
 | Co=>
  refine⟨_,Hn (H:=(LA l other la lb lc (Cg s) (.model m) (.Co L) L.length l.length).H) (b:=14) (ro:=false) (o:= .vec [.tok] (AP 1 L) false) (o1:= .vec [.tok] (AP 15 L) false) (p:= .abs (.mem [.str,.str] (L.map some)) false) (p1:= .abs (.mem [.str,.str] (L.map some)) false) (show 14 < 15 by decide) (Xd l.length) (I5 (ρ:=EN 14 15 2) rfl) rfl,?_⟩;rw[WJ];obtain⟨n,hn⟩:∃n,L.length=n+1:=⟨L.length - 1,by have:=List.length_pos_iff.2 h.ne;omega⟩
  have key:Ad E0 11 AE L8 (Kc l other la lb lc (Cg s) (.model m) L (AP 15 L) (Nat.succ n) l.length):=by
   have e:=h.jx;rw[<-e];obtain⟨_,hk,_,_⟩:=Dt la lb lc;rcases hk with hk | hk | hk | hk
   ·cases ho:Ij (Cg s) (A3 L) (aS la lb) (aV la lc)
    ·exact kC h hi hn hb hin hol hk ho
    ·exact jg h hi hn hb hin hol hk ho
   ·exact ko h hi hn hb hin hol hk
   ·cases hv:(C5 (A3 L) (aS la lb)).isSome
    ·exact j8 h hi hn hb hin hol hk hv
    ·exact jj h hi hn hb hin hol hk hv
   ·exact kn h hi hn hb hin hol hk
  rw[hn];exact key
theorem kD (hb:DJ la/\DJ lb/\DJ lc) (hin2:∀x∈other,Px x) (hol:other.length<=20) (hin:∀x∈l,Px x) (hl:l.length<=60):∀(q j:Nat) (m:AB) (L:List (List (EK.C AR))),l.length - j=q->j<=l.length->E1 (Cg s) m L j->
 Ad E0 11 AE L8 (LA l other la lb lc (Cg s) (.model m) (.Co L) L.length j):=by
 have hcfg:[List.getD (Cg s) 0 0,List.getD (Cg s) 1 0,List.getD (Cg s) 2 0,List.getD (Cg s) 3 0,List.getD (Cg s) 4 0,List.getD (Cg s) 5 0,List.getD (Cg s) 6 0]=Cg s:=rfl;intro q;induction q with
 | zero=>
  intro j m L hq hj h;have e:j=l.length:=by omega
  subst e;exact jl h (by omega) hb hin2 hol
 | succ q ih=>
  intro j m L hq hj h;have hlt:j < l.length:=by omega
  have hx:=hin l[j] (List.getElem_mem hlt);refine LZ U0 (ids:=[]) (S:=Qf) (S2:=Qf) (b:=0) (b2:=2) (ks:=[]) (by kernel_rfl) rfl rfl (Q:=fun _ _=>False) (R:=fun c=>c=LA l other la lb lc (Cg s) (.model (dI (Cg s) m (A3 L) l[j].1 l[j].2.1 l[j].2.2)) (.Co (Gg (Cg s) L l[j].1 l[j].2.1 l[j].2.2)) (Gg (Cg s) L l[j].1 l[j].2.1 l[j].2.2).length (j+1:Nat)) (R2:=fun _=>False)
   (fun v H h=>h.elim) (fun c hc=>by rw[hc];exact ih (j+1) _ _ (by omega) (by omega) (h.act (by omega))) (fun c hc=>hc.elim) 600 _ ?_
  rw[eG];simp only[hcfg];refine AU (fun _=>?_) (fun hh=>absurd (show(j:Int) < Int.ofNat l.length by simpa using hlt) hh);refine AH (ca hlt) (AH (cb hlt) ?_);rw[Ci hlt,Bv (by omega)];refine⟨⟨⟨trivial,trivial⟩,h.jB (by omega) hx⟩,Ae (fun hk=>?_) (fun hk=>rfl)⟩;have hkk:Gg (Cg s) L l[j].1 l[j].2.1 l[j].2.2=L:=by
   unfold Rm at hk;simp only[Bool.and_eq_true,Bool.not_eq_true']at hk;unfold Gg JU;rw[hk.1,hk.2];rfl
  rw[hkk]
theorem gB (hin:∀x∈l,Px x) (hin2:∀x∈other,Px x) (hb:DJ la/\DJ lb/\DJ lc) {slots:Int} (hs:DJ slots):Ad E0 11 AE L8 (st AE 272 [.int .u8 slots,QW l.length,.agg ⟨[.int .u8 la,.int .u8 lb,.int .u8 lc]⟩,CT 10 other.length] (iJ l other)):=by
 obtain⟨s0,s7⟩:=Xc hs;refine LZ U0 (ids:=[]) (S:=Qf) (S2:=Qf) (b:=0) (b2:=2) (ks:=[]) (by kernel_rfl) rfl rfl (Q:=fun v _=>v= .bool true) (R:=fun c=>(l.length<=60/\other.length<=20)/\c=LA l other la lb lc (Cg (Int.tmod slots 8)) (.model (m0 (Int.tmod slots 8))) (.Co [[]]) [([]:List (EK.C AR))].length (0:Nat)) (R2:=fun _=>False)
  (fun v H h=>h) (fun c hc=>by rw[hc.2];exact kD hb hin2 hc.1.2 hin hc.1.1 l.length 0 _ _ (by omega) (by omega) (iz s0 s7)) (fun c hc=>hc.elim) 400 _ ?_
 rw[dy];refine AU (fun _=>rfl) (fun e1=>AU (fun _=>rfl) (fun e2=>⟨hs,⟨?_,?_⟩,rfl⟩))
 ·have e1:¬(l.length:Int) > 60:=e1;omega
 ·have e2:¬(other.length:Int) > 20:=e2;omega
end
end Go.AI
