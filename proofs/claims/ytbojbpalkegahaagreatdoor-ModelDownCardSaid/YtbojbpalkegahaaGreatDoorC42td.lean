/-
  Part of the proof: the machine that runs a program by fixed orders, and that each of its runs is a run of the model; or a run of it in parts. No conditions.
-/
import Derived.Test.YtbojbpalkegahaaGreatDoorIdRow
import Derived.Test.YtbojbpalkegahaaGreatDoorC42b
import Derived.Test.YtbojbpalkegahaaGreatDoorC42tb
namespace Go.AD
def Lb (P:Program) (x:String × DataW Unit):Option (Nat × List Value):=
 match x.2 with
 | .iface _ _=>(P.globalNamed x.1).map fun g=>(g,[Be])
 | _=>match Vp P x with
  | some p=>bif p.2.all flat then some p else none
  | none=>none
theorem RH {P:Program} {w:World} {sp:Nat→Bool} {fuel:Nat} {t:TypeId} {cs:List Value} {nm:String} {d:DataW Unit} {ps:List MemPlace} (h:DataW.trod (fun _=>()) P w 0 sp false fuel t cs=some (.iface nm d,ps)):∃te pe,cs=[.iface te pe]:=by
 cases fuel with
 | zero=>cases h
 | succ fuel=>
  unfold DataW.trod at h
  split at h
  all_goals first
   | (exact⟨_,_,rfl⟩)
   | (cases h;done)
   | (exfalso;simp[Option.bind_eq_some_iff]at h;done)
   | (exfalso;split at h<;>simp[Option.bind_eq_some_iff]at h;done)
   | (exfalso;split at h<;>(try split at h)<;>(try simp[Option.map_eq_some_iff,Option.bind_eq_some_iff]at h);done)
theorem PS {P:Program} {w:World}:∀(laid:List (String × DataW Unit)) (ps:List MemPlace),DataW.LaidVars P w laid ps→∀(n:Nat) (x:String × DataW Unit) (p:Nat × List Value),laid[n]? = some x→Lb P x=some p→∃a t fz,w.heap[p.1]? = some (.cells a t fz)∧OF p.2 a.toList:=by
 intro laid
 induction laid with
 | nil=>intro ps _ n x p hx;simp at hx
 | cons y laid ih=>
  intro ps hl n x p hx h0
  obtain⟨nm,d⟩:=y
  obtain⟨g,t,cs,fuel,p1,q1,h1,h2,h3,h4,h5,_⟩:=hl
  cases n with
  | zero=>
   simp only[List.getElem?_cons_zero,Option.some.injEq]at hx
   subst hx
   simp only[World.var?,h1,Option.bind_some]at h3
   split at h3
   ·rename_i cs' t' fz hh
    cases h3
    unfold Lb at h0
    simp only at h0
    split at h0
    ·rename_i nm2 d2
     rw[h1]at h0
     cases h0
     obtain⟨te,pe,e⟩:=RH h4
     exact⟨_,_,_,hh,by rw[e];exact .iface te pe⟩
    ·split at h0
     ·rename_i p0 GD
      cases hf:p0.2.all flat
      ·rw[hf]at h0;cases h0
      ·rw[hf]at h0
       cases h0
       simp only[Vp,h1,Option.bind_some,h2,Option.map_eq_some_iff]at GD
       obtain⟨l,hl,rfl⟩:=GD
       exact⟨_,_,_,hh,by rw[Yi 12 fuel t _ d p1 l h4 hl];exact .plain _ hf⟩
     ·cases h0
   ·cases h3
  | succ n=>exact ih q1 h5 n x p (by simpa using hx) h0
theorem Xz {X:Ctx} {laid:List (String × DataW Unit)} {W:World} (hL:laidMetH X.P laid W) (hp:(laid.all fun x=>x.2.handleName?.isNone)=true) (ns:List Nat) (hm:(ns.map fun n=>(laid[n]?).bind (Lb X.P))=X.laid.map some) (hnd:(X.laid.map Prod.fst).Nodup):DX X (Je W) W:=by
 rw[MakeChecks.laidMetH_plain _ _ _ hp]at hL
 obtain⟨ps,h1,_⟩:=hL
 refine⟨hnd,fun p hp=>?_⟩
 have hmem:some p∈ns.map fun n=>(laid[n]?).bind (Lb X.P):=by rw[hm];exact List.mem_map_of_mem hp
 obtain⟨n,_,hn⟩:=List.mem_map.1 hmem
 rw[Option.bind_eq_some_iff]at hn
 obtain⟨x,hx,hxp⟩:=hn
 obtain⟨a,t,fz,h2,h3⟩:=PS laid ps h1 n x p hx hxp
 refine⟨?_,a,t,fz,h2,h3⟩
 exact(Array.getElem?_eq_some_iff.1 h2).1
end Go.AD

namespace Go.AD
open Go.ChangeShapes
def Q8 (P:Program):Nat→TypeId→Option (List (Nat × SK))
 | 0,_=>none
 | f+1,t=>match P.underlying t with
  | some (.int k)=>some [(0,.int k)]
  | some .bool=>some [(0,.bool)]
  | some .string=>some [(0,.str)]
  | some (.struct fields)=>(fields.toList.mapM fun fd=>(Q8 P f fd.type).map fun l=>l.map fun p=>(fd.offset+p.1,p.2)).map List.flatten
  | some (.array n e)=>((List.range n).mapM fun i=>(Q8 P f e).map fun l=>l.map fun p=>(i * P.cellsOf e+p.1,p.2)).map List.flatten
  | _=>none
def SK.Ki:(s:SK)→s.C→Prop
 | .int k,n=>(Lit.int k n).wf=true
 | .str,s=>s.size≤maxLen
 | _,_=>True
def EK.Ki:(k:EK)→EK.C k→Prop
 | [],_=>True
 | [s],x=>s.Ki x
 | s::t::r,x=>s.Ki x.1∧EK.Ki (t::r) x.2
section
variable {P:Program} {w:World} {H:Type} {enc:TypeId × Value→H}
theorem mapM_mem {α β:Type} {f:α→Option β}:∀{l:List α} {m:List β},l.mapM f=some m→∀x∈l,∃y,f x=some y
 | [],_,_,x,hx=>by cases hx
 | a::l,m,h,x,hx=>by
  rw[List.mapM_cons]at h
  cases ha:f a with
  | none=>rw[ha]at h;simp at h
  | some y=>
   rw[ha]at h
   simp only[Option.pure_def,Option.bind_eq_bind,Option.bind_some]at h
   cases hl:l.mapM f with
   | none=>rw[hl]at h;simp at h
   | some m'=>
    rcases List.mem_cons.1 hx with rfl | hx
    ·exact⟨y,ha⟩
    ·exact mapM_mem hl x hx
theorem mapM_flat {α β:Type} {f:α→Option (List β)}:∀{l:List α} {m:List (List β)},l.mapM f=some m→∀y∈m.flatten,∃x∈l,∃z,f x=some z∧y∈z
 | [],m,h,y,hy=>by
  simp at h;subst h;simp at hy
 | a::l,m,h,y,hy=>by
  rw[List.mapM_cons]at h
  cases ha:f a with
  | none=>rw[ha]at h;simp at h
  | some z=>
   rw[ha]at h
   simp only[Option.pure_def,Option.bind_eq_bind,Option.bind_some]at h
   cases hl:l.mapM f with
   | none=>rw[hl]at h;simp at h
   | some m'=>
    rw[hl]at h
    simp only[Option.bind_some,Option.some.injEq]at h
    subst h
    rw[List.flatten_cons,List.mem_append]at hy
    rcases hy with hy | hy
    ·exact⟨a,by simp,z,ha,hy⟩
    ·obtain⟨x,h1,z2,h2,h3⟩:=mapM_flat hl y hy
     exact⟨x,by simp[h1],z2,h2,h3⟩
theorem Ip {α:Type} {l:List α} {o n i:Nat} {x:α} (h:((l.drop o).take n)[i]? = some x):l[o+i]? = some x:=by
 rw[List.getElem?_take]at h
 split at h
 ·rwa [List.getElem?_drop]at h
 ·cases h
theorem M6 {α β:Type} {f:α→Option β}:∀{l:List α} {m:List β},l.mapM f=some m→m.length=l.length
 | [],m,h=>by simp at h;subst h;rfl
 | a::l,m,h=>by
  rw[List.mapM_cons]at h
  cases ha:f a with
  | none=>rw[ha]at h;simp at h
  | some y=>
   rw[ha]at h
   simp only[Option.pure_def,Option.bind_eq_bind,Option.bind_some]at h
   cases hl:l.mapM f with
   | none=>rw[hl]at h;simp at h
   | some m'=>
    rw[hl]at h
    simp only[Option.bind_some,Option.some.injEq]at h
    subst h
    simp[M6 hl]
theorem UY {base:Nat} {sp:Nat→Bool} {held:Bool}:∀(f:Nat) (t:TypeId) (K:List (Nat × SK)),Q8 P f t=some K→∀(fuel:Nat) (cs:List Value) (d:DataW H) (ps:List MemPlace),DataW.trod enc P w base sp held fuel t cs=some (d,ps)→
 ∀p∈K,∃x:p.2.C,cs[p.1]? = some (p.2.enc x)∧p.2.Ki x:=by
 intro f
 induction f with
 | zero=>intro t K h;cases h
 | succ f ih=>
  intro t K hK fuel cs d ps h p hp
  cases fuel with
  | zero=>cases h
  | succ fuel=>
   unfold Q8 at hK
   unfold DataW.trod at h
   cases hu:P.underlying t with
   | none=>rw[hu]at hK;cases hK
   | some D=>
    rw[hu]at hK h
    cases D with
    | int k=>
     simp only[Option.some.injEq]at hK
     subst hK
     simp only[List.mem_singleton]at hp
     subst hp
     simp only at h
     split at h
     all_goals first
      | (split at h;· rename_i hc;obtain⟨rfl,hc2⟩:=hc;simp_all only[TypeDesc.int.injEq,Option.some.injEq];exact⟨_,rfl,hc2⟩;· cases h)
      | (simp_all;done)
      | (simp_all;subst_vars;exact⟨_,rfl,h.1.2⟩)
    | bool=>
     simp only[Option.some.injEq]at hK
     subst hK
     simp only[List.mem_singleton]at hp
     subst hp
     simp only at h
     split at h
     all_goals first
      | (simp_all;done)
      | exact⟨_,rfl,trivial⟩
    | string=>
     simp only[Option.some.injEq]at hK
     subst hK
     simp only[List.mem_singleton]at hp
     subst hp
     simp only at h
     split at h
     all_goals first
      | (split at h;· rename_i hc;exact⟨_,rfl,hc⟩;· cases h)
      | (simp_all;done)
      | (simp_all;exact⟨_,rfl,h.1⟩)
    | struct fs=>
     simp only[Option.map_eq_some_iff]at hK
     obtain⟨m,hm,rfl⟩:=hK
     obtain⟨fd,hfd,z,hz,hpz⟩:=mapM_flat hm p hp
     simp only[Option.map_eq_some_iff]at hz
     obtain⟨l,hl,rfl⟩:=hz
     obtain⟨q,hq,rfl⟩:=List.mem_map.1 hpz
     have key:∃xs,(fs.toList.mapM fun f=>DataW.trod enc P w base sp held fuel f.type ((cs.drop f.offset).take (P.cellsOf f.type)))=some xs:=by
      simp only at h
      by_cases hc:cs.length=P.cellsOf t
      ·rw[if_pos hc,Option.map_eq_some_iff]at h
       obtain⟨xs,hxs,_⟩:=h
       exact⟨xs,hxs⟩
      ·rw[if_neg hc]at h;cases h
     obtain⟨xs,hxs⟩:=key
     obtain⟨⟨d2,ps2⟩,hy⟩:=mapM_mem hxs fd hfd
     obtain⟨x,h1,h2⟩:=ih fd.type l hl fuel _ d2 ps2 hy q hq
     exact⟨x,Ip h1,h2⟩
    | array n e=>
     simp only[Option.map_eq_some_iff]at hK
     obtain⟨m,hm,rfl⟩:=hK
     obtain⟨i,hi,z,hz,hpz⟩:=mapM_flat hm p hp
     simp only[Option.map_eq_some_iff]at hz
     obtain⟨l,hl,rfl⟩:=hz
     obtain⟨q,hq,rfl⟩:=List.mem_map.1 hpz
     have key:∃xs,((List.range n).mapM fun i=>DataW.trod enc P w base sp held fuel e ((cs.drop (i * P.cellsOf e)).take (P.cellsOf e)))=some xs:=by
      simp only at h
      by_cases hc:cs.length=P.cellsOf t
      ·rw[if_pos hc,Option.map_eq_some_iff]at h
       obtain⟨xs,hxs,_⟩:=h
       exact⟨xs,hxs⟩
      ·rw[if_neg hc]at h;cases h
     obtain⟨xs,hxs⟩:=key
     obtain⟨⟨d2,ps2⟩,hy⟩:=mapM_mem hxs i hi
     obtain⟨x,h1,h2⟩:=ih e l hl fuel _ d2 ps2 hy q hq
     exact⟨x,Ip h1,h2⟩
    | _=>cases hK
theorem Kv:∀(k:EK) (o:Nat) (cs:List Value),cs.length=o+k.length→(∀i s,k[i]? = some s→∃x:s.C,cs[o+i]? = some (s.enc x)∧s.Ki x)→∃x:EK.C k,cs.drop o=EK.enc k x∧EK.Ki k x
 | [],o,cs,hl,_=>⟨(),by rw[List.drop_of_length_le (by simp at hl;omega)];rfl,trivial⟩
 | [s],o,cs,hl,h=>by
  obtain⟨x,h1,h2⟩:=h 0 s rfl
  refine⟨x,?_,h2⟩
  have hlt:o < cs.length:=by simp at hl;omega
  rw[List.drop_eq_getElem_cons hlt,List.drop_of_length_le (by simp at hl;omega)]
  rw[Nat.add_zero,List.getElem?_eq_getElem hlt]at h1
  have h1:=Option.some.inj h1
  rw[h1];rfl
 | s::t::r,o,cs,hl,h=>by
  obtain⟨x,h1,h2⟩:=h 0 s rfl
  have hlt:o < cs.length:=by simp at hl;omega
  obtain⟨y,h3,h4⟩:=Kv (t::r) (o+1) cs (by simp at hl ⊢;omega) (fun i s' hi=>by
   obtain⟨z,e1,e2⟩:=h (i+1) s' (by simpa using hi)
   exact⟨z,by rw[show o+1+i=o+(i+1)from by omega];exact e1,e2⟩)
  refine⟨(x,y),?_,h2,h4⟩
  rw[List.drop_eq_getElem_cons hlt,h3]
  rw[Nat.add_zero,List.getElem?_eq_getElem hlt]at h1
  have h1:=Option.some.inj h1
  rw[h1];rfl
def J2 (P:Program) (t:TypeId) (k:EK):Bool:=
 Nat.beq (P.cellsOf t) k.length&& !(Nat.beq k.length 0)&&(match Q8 P 8 t with | some K=>decide (K.map Prod.fst=List.range k.length)&&decide (K.map Prod.snd=k) | none=>false)
theorem Uk {base:Nat} {sp:Nat→Bool} {held:Bool} {t:TypeId} {k:EK} (hk:J2 P t k=true) {fuel:Nat} {cs:List Value} {d:DataW H} {ps:List MemPlace} (hl:cs.length=P.cellsOf t)
 (h:DataW.trod enc P w base sp held fuel t cs=some (d,ps)):∃x:EK.C k,cs=EK.enc k x∧EK.Ki k x:=by
 unfold J2 at hk
 simp only[Bool.and_eq_true]at hk
 obtain⟨⟨h1,_⟩,h2⟩:=hk
 have h1:=Nat.eq_of_beq_eq_true h1
 split at h2
 ·rename_i K hK
  simp only[Bool.and_eq_true,decide_eq_true_eq]at h2
  obtain⟨h2,h3⟩:=h2
  obtain⟨x,e1,e2⟩:=Kv k 0 cs (by rw[hl,h1,Nat.zero_add]) (fun i s hi=>by
   have hi1:(K.map Prod.snd)[i]? = some s:=by rw[h3];exact hi
   rw[List.getElem?_map,Option.map_eq_some_iff]at hi1
   obtain⟨p,hp,rfl⟩:=hi1
   have hi2:(K.map Prod.fst)[i]? = some p.1:=by rw[List.getElem?_map,hp];rfl
   rw[h2]at hi2
   have hlt:i < k.length:=by
    rcases Nat.lt_or_ge i k.length with q | q
    ·exact q
    ·rw[List.getElem?_eq_none q]at hi;cases hi
   rw[List.getElem?_range hlt]at hi2
   have hi2:=Option.some.inj hi2
   obtain⟨x,e1,e2⟩:=UY 8 t K hK fuel cs d ps h p (List.mem_of_getElem? hp)
   exact⟨x,by rw[Nat.zero_add,hi2];exact e1,e2⟩)
  exact⟨x,by rw[←e1,List.drop_zero],e2⟩
 ·cases h2
theorem OC {α:Type} {Q:Nat→α→Prop}:∀(n:Nat),(∀i,i < n→∃x,Q i x)→∃l:List α,l.length=n∧∀i x,l[i]? = some x→Q i x
 | 0,_=>⟨[],rfl,fun i x h=>by cases h⟩
 | n+1,h=>by
  obtain⟨l,h1,h2⟩:=OC n (fun i hi=>h i (by omega))
  obtain⟨x,hx⟩:=h n (by omega)
  refine⟨l++[x],by simp[h1],fun i y hi=>?_⟩
  rw[List.getElem?_append]at hi
  split at hi
  ·exact h2 i y hi
  ·rename_i hlt
   have:i - l.length=0:=by
    rcases Nat.eq_zero_or_pos (i - l.length)with q | q
    ·exact q
    ·rw[List.getElem?_eq_none (by simp;omega)]at hi;cases hi
   rw[this]at hi
   have hi:x=y:=by simpa using hi
   subst hi
   have:i=n:=by omega
   rw[this];exact hx
theorem trod_slice {t e:TypeId} {k:EK} (hu:P.underlying t=some (.slice e)) (hk:J2 P e k=true) {held:Bool} {fuel:Nat} {v:Value} {d:DataW H} {ps:List MemPlace}
 (h:DataW.trod enc P w 0 (fun _=>true) held fuel t [v]=some (d,ps)):
 v= .slice none 0 0∨∃a len cap,v= .slice (some a) len cap∧len≤cap∧cap≤maxLen∧∃l:List (EK.C k),l.length=cap∧∀i x,l[i]? = some x→(w.cells? 0 (a.add (i * k.length)) k.length=some (EK.enc k x)∧EK.Ki k x):=by
 cases fuel with
 | zero=>cases h
 | succ fuel=>
  have hcl:P.cellsOf e=k.length:=by
   unfold J2 at hk
   simp only[Bool.and_eq_true]at hk
   exact Nat.eq_of_beq_eq_true hk.1.1
  unfold DataW.trod at h
  rw[hu]at h
  simp only at h
  split at h
  all_goals try (simp_all;done)
  ·rename_i _ e2 a len cap he hcs
   have he:e=e2:=by simpa using he
   subst he
   right
   have hv:v= .slice (some a) len cap:=by
    simpa using hcs
   subst hv
   split at h
   ·rename_i hc
    obtain⟨_,hc1,hc2⟩:=hc
    refine⟨a,len,cap,rfl,hc1,hc2,?_⟩
    rw[Option.bind_eq_some_iff]at h
    obtain⟨elems,he1,h⟩:=h
    simp only[if_true,Option.map_eq_some_iff]at h
    obtain⟨rest,he2,_⟩:=h
    refine OC cap fun i hi=>?_
    have hel:∃y,((w.cells? 0 (a.add (i * P.cellsOf e)) (P.cellsOf e)).bind (DataW.trod enc P w 0 (fun _=>true) held fuel e))=some y:=by
     rcases Nat.lt_or_ge i len with q | q
     ·exact mapM_mem he1 i (by simpa using q)
     ·obtain⟨y,hy⟩:=mapM_mem he2 (i - len) (by simp;omega)
      exact⟨y,by rw[show len+(i - len)=i from by omega]at hy;exact hy⟩
    obtain⟨⟨d2,ps2⟩,hy⟩:=hel
    rw[Option.bind_eq_some_iff]at hy
    obtain⟨cs,hcs,hy⟩:=hy
    have hlen:cs.length=P.cellsOf e:=by
     unfold World.cells? at hcs
     rw[if_pos (Nat.zero_le _)]at hcs
     exact(M6 hcs).trans (by simp)
    obtain⟨x,e1,e2⟩:=Uk hk hlen hy
    rw[hcl]at hcs
    exact⟨x,by rw[hcs,e1],e2⟩
   ·cases h
end
end Go.AD

namespace Go.AD
section
variable {base:Env} {W0:World} {μ:Ad} {H:AA} {W:World}
theorem AP.S0 (h:AP base W0 μ H W) (hall:∀b p,H.get b=some p→p.ro=true∧p.isAbs=false) {T:Bv} {o:AJ} {o':Obj} (hro:o.ro=true) (hna:o.isAbs=false) (hT:W.heap[T.c]? = some o') (ho:Cb μ T o o'):
 AP base W0 (μ.ext H.next T) (H.alloc o) W:=by
 have hle:μ.le (μ.ext H.next T):=Ad.DK T (h.fresh _ (Nat.le_refl _)).2
 have hlt:T.c < W.heap.size:=by
  rcases Nat.lt_or_ge T.c W.heap.size with q | q
  ·exact q
  ·rw[Array.getElem?_eq_none q]at hT;cases hT
 have key:∀b p,(H.alloc o).get b=some p→(b=H.next∧p=o)∨(b≠H.next∧H.get b=some p):=by
  intro b p e
  rw[AA.AQ]at e
  by_cases q:b=H.next
  ·rw[if_pos q]at e;cases e;exact .inl ⟨q,rfl⟩
  ·rw[if_neg q]at e;exact .inr ⟨q,e⟩
 have kro:∀b p,(H.alloc o).get b=some p→p.ro=true∧p.isAbs=false:=by
  intro b p e
  rcases key b p e with⟨_,rfl⟩ | ⟨_,e⟩
  ·exact⟨hro,hna⟩
  ·exact hall b p e
 refine⟨?_,?_,?_,?_,?_,h.size,h.below,h.out,h.os,?_,Ad.le_trans h.le hle,h.grow⟩
 ·intro b p hb T' hT'
  rcases key b p hb with⟨rfl,rfl⟩ | ⟨hne,hb⟩
  ·rw[Ad.Ak]at hT';cases hT'
   exact⟨o',hT,ho.mono hle⟩
  ·rw[Ad.BX _ _ hne]at hT'
   obtain⟨o2,h2,h3⟩:=h.obj b p hb T' hT'
   exact⟨o2,h2,h3.mono hle⟩
 ·intro b p hb hr T' hT'
  rw[(kro b p hb).1]at hr;cases hr
 ·intro b1 b2 o1 o2 h1 h2 T1 T2 m1 m2 _ _ hc hrr
  rcases hrr with hr | hr
  ·rw[(kro b1 o1 h1).1]at hr;cases hr
  ·rw[(kro b2 o2 h2).1]at hr;cases hr
 ·intro b hb
  have hb:H.next+1≤b:=hb
  refine⟨?_,by rw[Ad.BX _ _ (by omega)];exact(h.fresh b (by omega)).2⟩
  rw[AA.AQ,if_neg (by omega)]
  exact(h.fresh b (by omega)).1
 ·intro b T' hT'
  by_cases e:b=H.next
  ·subst e;rw[Ad.Ak]at hT';cases hT';exact hlt
  ·rw[Ad.BX _ _ e]at hT';exact h.bound b T' hT'
 ·refine⟨fun _ _=>False,fun b a ro T' h1 h2=>?_,fun b a ro T' h1 h2=>?_⟩
  ·have:=(kro b _ h1).2;cases this
  ·have:=(kro b _ h1).2;cases this
end
theorem Hy (n b:Nat):(⟨.leaf,n⟩:AA).get b=none:=by
 cases h:(⟨.leaf,n⟩:AA).get b with
 | none=>rfl
 | some o=>
  exfalso
  have:(Tr.leaf:Tr AJ).get b=some o:=h
  unfold Tr.get at this
  cases hp:FU.of b<;>rw[hp]at this<;>cases this
theorem N9 {k:EK} {c:List Value}:∀(l:List (EK.C k)) (o:Nat),(∀i x,l[i]? = some x→∀j v,(EK.enc k x)[j]? = some v→c[o+(i * k.length+j)]? = some v)→(c.drop o).take (l.length * k.length)=A3 k l
 | [],o,_=>by simp[A3]
 | x::l,o,h=>by
  have ih:=N9 l (o+k.length) (fun i y hi j v hj=>by
   have:=h (i+1) y (by simpa using hi) j v hj
   rw[Nat.succ_mul]at this
   rw[show o+k.length+(i * k.length+j)=o+(i * k.length+k.length+j)from by omega]
   exact this)
  rw[Cl,List.length_cons,Nat.succ_mul,Nat.add_comm (l.length * k.length),List.take_add,List.drop_drop,ih]
  congr 1
  apply List.ext_getElem?
  intro j
  rcases Nat.lt_or_ge j k.length with q | q
  ·rw[List.getElem?_take,if_pos q,List.getElem?_drop]
   have hl:j < (EK.enc k x).length:=by rw[EK.CK];exact q
   rw[List.getElem?_eq_getElem hl]
   have:=h 0 x rfl j _ (List.getElem?_eq_getElem hl)
   rw[Nat.zero_mul,Nat.zero_add]at this
   exact this
  ·rw[List.getElem?_take,if_neg (by omega),List.getElem?_eq_none (by rw[EK.CK];exact q)]
theorem XH {w:World} {b o n:Nat} {cs:List Value} {c:Array Value} {t:TypeId} {fz:Nat × Nat} (hb:w.heap[b]? = some (.cells c t fz)) (h:w.cells? 0 ⟨b,o,none⟩ n=some cs):∀(j:Nat) v,cs[j]? = some v→c.toList[o+j]? = some v:=by
 unfold World.cells? at h
 rw[if_pos (Nat.zero_le _)]at h
 intro j v hj
 have hl:=M6 h
 have hjn:j < n:=by
  rcases Nat.lt_or_ge j n with q | q
  ·exact q
  ·rw[List.getElem?_eq_none (by rw[hl];simpa using q)]at hj;cases hj
 have key:∀(l:List Nat) (m:List Value),l.mapM (fun i=>w.cell? ((⟨b,o,none⟩:Addr).add i))=some m→∀(i a:Nat) v,l[i]? = some a→m[i]? = some v→w.cell? ((⟨b,o,none⟩:Addr).add a)=some v:=by
  intro l
  induction l with
  | nil=>intro m _ i a v hi;cases hi
  | cons x r ih=>
   intro m hm i a v hi hv
   rw[List.mapM_cons]at hm
   cases hx:w.cell? ((⟨b,o,none⟩:Addr).add x)with
   | none=>rw[hx]at hm;simp at hm
   | some y=>
    rw[hx]at hm
    simp only[Option.pure_def,Option.bind_eq_bind,Option.bind_some]at hm
    cases hr:r.mapM (fun i=>w.cell? ((⟨b,o,none⟩:Addr).add i))with
    | none=>rw[hr]at hm;simp at hm
    | some m'=>
     rw[hr]at hm
     simp only[Option.bind_some,Option.some.injEq]at hm
     subst hm
     cases i with
     | zero=>
      have h1:x=a:=by simpa using hi
      have h2:y=v:=by simpa using hv
      subst h1 h2;exact hx
     | succ i=>exact ih m' hr i a v (by simpa using hi) (by simpa using hv)
 have:=key _ _ h j j v (by rw[List.getElem?_range hjn]) hj
 unfold World.cell? at this
 have e:((⟨b,o,none⟩:Addr).add j)=⟨b,o+j,none⟩:=by
  unfold Addr.add
  by_cases hj:j=0
  ·subst hj;simp
  ·simp[hj]
 rw[e]at this
 simp only[hb]at this
 simpa using this
theorem Ex:∀(k:EK),k.all SK.plain=true→∀x:EK.C k,(EK.enc k x).all flat=true
 | [],_,_=>rfl
 | [s],h,x=>by
  cases s with
  | int k=>rfl
  | bool=>rfl
  | str=>rfl
  | tok=>simp[SK.plain]at h
 | s::t::r,h,x=>by
  rw[List.all_cons,Bool.and_eq_true]at h
  simp only[EK.enc,List.all_cons,Bool.and_eq_true]
  refine⟨?_,Ex (t::r) h.2 x.2⟩
  cases s with
  | int k=>rfl
  | bool=>rfl
  | str=>rfl
  | tok=>simp[SK.plain]at h
theorem RS (μ:Ad) (k:EK) (hk:k.all SK.plain=true) (l:List (EK.C k)):A2 μ (A3 k l) (A3 k l):=by
 refine D3 _ ?_
 unfold A3
 rw[List.all_eq_true]
 intro v hv
 obtain⟨x,_,hx⟩:=List.mem_flatMap.1 hv
 exact List.all_eq_true.1 (Ex k hk x) v hx
theorem Po {X:Ctx} {W:World} {μ:Ad} {H:AA} (s3:AP (Je W) W μ H W) (s2:Bb X μ) (hall:∀b p,H.get b=some p→p.ro=true∧p.isAbs=false) {P:Program} {HH:Type} {enc:TypeId × Value→HH} {t e:TypeId} {k:EK} (hu:P.underlying t=some (.slice e))
 (hk:J2 P e k=true) (hpl:k.all SK.plain=true) {r:Go.Reach} {bs:Nat} {v:Value} (hok:Cell.okWide P W r bs t v) {held:Bool} {fuel:Nat} {d:DataW HH} {ps:List MemPlace} (htr:DataW.trod enc P W 0 (fun _=>true) held fuel t [v]=some (d,ps)):
 v= .slice none 0 0∨∃(l:List (EK.C k)) (T:Bv),(∀x∈l,EK.Ki k x)∧l.length≤maxLen∧AP (Je W) W (μ.ext H.next T) (H.alloc (.vec k l true)) W∧Bb X (μ.ext H.next T)∧
  AH (μ.ext H.next T) (.slice (some ⟨H.next,0,some 0⟩) l.length AE) v:=by
 rcases trod_slice hu hk htr with rfl | ⟨a,len,cap,rfl,h1,h2,l,h3,h4⟩
 ·exact .inl rfl
 ·right
  have hk0:0 < k.length:=by
   unfold J2 at hk
   simp only[Bool.and_eq_true]at hk
   rcases Nat.eq_zero_or_pos k.length with q | q
   ·rw[q]at hk;simp at hk
   ·exact q
  have hsh:∃b o c t' fz,a=⟨b,o,none⟩∧W.heap[b]? = some (.cells c t' fz):=by
   unfold Cell.okWide Cell.ok at hok;rw[hu]at hok
   simp only at hok
   obtain⟨_,_,h3⟩:=hok
   obtain⟨_,hs,row,cells,hsh,_⟩:=h3
   obtain⟨b,o,sp⟩:=a
   simp only at hs
   subst hs
   unfold World.shape? at hsh
   simp only at hsh
   split at hsh
   ·rename_i c t' fz hb;exact⟨b,o,c,t',fz,rfl,hb⟩
   ·cases hsh
  obtain⟨b,o,c,t',⟨f1,f2⟩,rfl,hb⟩:=hsh
  have hcell:∀i x,l[i]? = some x→∀j v,(EK.enc k x)[j]? = some v→c.toList[o+(i * k.length+j)]? = some v:=by
   intro i x hi j v hj
   obtain⟨q1,_⟩:=h4 i x hi
   have e:((⟨b,o,none⟩:Addr).add (i * k.length))=⟨b,o+i * k.length,none⟩:=by
    unfold Addr.add
    by_cases hz:i * k.length=0
    ·simp[hz]
    ·simp[hz]
   rw[e]at q1
   have:=XH hb q1 j v hj
   rw[Nat.add_assoc]at this
   exact this
  have hok2:∀x∈l.take len,EK.Ki k x:=fun x hx=>by
   obtain⟨i,hi⟩:=List.getElem?_of_mem (List.mem_of_mem_take hx)
   exact(h4 i x hi).2
  have hlen:(l.take len).length=len:=by rw[List.length_take];omega
  have hmax:maxLen=9223372036854775807:=by unfold maxLen;rfl
  by_cases hc0:cap=0
  ·have hl0:len=0:=by omega
   subst hc0 hl0
   have hl:l=[]:=List.eq_nil_of_length_eq_zero h3
   subst hl
   refine⟨[],⟨b,0,c.size,k.length⟩,by simp,Nat.zero_le _,?_,s2.mono (Ad.DK _ (s3.fresh H.next (Nat.le_refl _)).2),?_⟩
   ·refine s3.S0 hall rfl rfl hb (.vec _ k [] true _ (.cells _ _ _ _ c t' f1 f2 rfl ?_ (by simp) (fun q=>by cases q)))
    simp[A3];exact .nil
   ·exact .Cr H.next 0 AE ⟨b,0,c.size,k.length⟩ (some (b,o)) (Ad.Ak _ _ _) (.inr ⟨Nat.le_refl _,Nat.sub_self _⟩)
  ·have hsz:o+cap * k.length≤c.size:=by
    have hx:cap - 1 < l.length:=by omega
    have hj:k.length - 1 < (EK.enc k l[cap - 1]).length:=by rw[EK.CK];omega
    have:=hcell (cap - 1) l[cap - 1] (List.getElem?_eq_getElem hx) (k.length - 1) _ (List.getElem?_eq_getElem hj)
    have hlt:o+((cap - 1) * k.length+(k.length - 1)) < c.toList.length:=by
     rcases Nat.lt_or_ge (o+((cap - 1) * k.length+(k.length - 1))) c.toList.length with q | q
     ·exact q
     ·rw[List.getElem?_eq_none q]at this;cases this
    have e:cap * k.length=(cap - 1) * k.length+k.length:=by
     obtain⟨m,rfl⟩:∃m,cap=m+1:=⟨cap - 1,by omega⟩
     rw[Nat.succ_mul];rfl
    simp at hlt
    omega
   refine⟨l.take len,⟨b,o,c.size - o,k.length⟩,hok2,by rw[hlen];omega,?_,s2.mono (Ad.DK _ (s3.fresh H.next (Nat.le_refl _)).2),?_⟩
   ·refine s3.S0 hall rfl rfl hb (.vec _ k _ true _ (.cells _ _ _ _ c t' f1 f2 rfl ?_ (by show c.size=o+(c.size - o);omega) (fun q=>by cases q)))
    have e:=N9 (c:=c.toList) (l.take len) o (fun i x hi j v hj=>hcell i x (by
     rw[List.getElem?_take]at hi
     split at hi
     ·exact hi
     ·cases hi) j v hj)
    rw[CE]
    show A2 _ _ ((c.toList.drop o).take _)
    rw[e]
    exact RS _ k hpl (l.take len)
   ·rw[hlen]
    refine .Bk H.next 0 len AE cap o ⟨b,o,c.size - o,k.length⟩ (Ad.Ak _ _ _) (.inr ⟨Nat.le_refl _,by omega,h1,?_,.inr (by omega)⟩) (.inl (by simp)) ?_
    ·show 0 * k.length+cap * k.length≤c.size - o
     omega
    ·show c.size - o≠0
     have:=Nat.mul_pos (show 0 < cap by omega) hk0
     omega
theorem Rc {X:Ctx} {W:World} (hok:Dn X (Je W) W) (hplan:FF X) {f:FuncId} {n N:Nat} (he:entry X.P f=some (n,BH X.P f [])) {μ:Ad} {H:AA} (hH:AP (Je W) W μ H W) (hl:Bb X μ)
 {args:List Value} {args':Array Value} (ha:A2 μ args args'.toList) (hn:args.length≤n) {v:Value} (hrun:Ai X N f (fun v' _=>v'=v) (GO f (CQ 0 args .leaf) n (BH X.P f []) H)) (hv:flat v=true):
 Calls X.P f args' W fun e W'=>e= .returned v∧Dh W W':=by
 intro cs
 obtain⟨c',⟨v2,Hf,hd,rfl⟩,μ1,fr1,cs1,W1,st,m1⟩:=hrun (Je W) W (fun b T h=>by cases h) hok hplan cs _ _ [] W (Fb hH hl he ha hn)
 obtain⟨rfl,hf,v',e1,e2,e3⟩:=Gp m1 hd
 have hs':Steps X.P (lone (Frame.enter X.P f args' .normal) cs W) (lone fr1 cs W1):=by simpa using st
 refine⟨.returned v',W1,fr1,⟨?_,e2.Zz⟩,hs',hf,e1⟩
 rw[Eu hv e3]
theorem U3 {X:Ctx} {W:World} (hL:DX X (Je W) W) {n:Nat} (hn:(X.laid.all fun p=>Nat.blt p.1 n)=true) {P:Program} {H:Type} {enc:TypeId × Value→H} {t e:TypeId} {k:EK} (hu:P.underlying t=some (.slice e))
 (hk:J2 P e k=true) (hpl:k.all SK.plain=true) {r:Go.Reach} {bs:Nat} {v:Value} (hok:Cell.okWide P W r bs t v) {held:Bool} {fuel:Nat} {d:DataW H} {ps:List MemPlace} (htr:DataW.trod enc P W 0 (fun _=>true) held fuel t [v]=some (d,ps)):
 ∃μ,AP (Je W) W μ ⟨.leaf,n⟩ W∧Bb X μ∧(v= .slice none 0 0∨∃(l:List (EK.C k)) (T:Bv),(∀x∈l,EK.Ki k x)∧l.length≤maxLen∧AP (Je W) W (μ.ext n T) ((⟨.leaf,n⟩:AA).alloc (.vec k l true)) W∧Bb X (μ.ext n T)∧
  AH (μ.ext n T) (.slice (some ⟨n,0,some 0⟩) l.length AE) v):=by
 obtain⟨s1,s2⟩:=Mj (X:=X) hL (none_le _) (fun _ hi=>hi) (n:=n) (Mk hn)
 have s3:AP (Je W) W (M5 X.laid) ⟨.leaf,n⟩ W:=s1.sub (H':=⟨.leaf,n⟩) (fun b o hb=>by rw[Hy]at hb;cases hb) (by rw[G7])
 exact⟨M5 X.laid,s3,s2,Po s3 s2 (fun b p hb=>by rw[Hy]at hb;cases hb) hu hk hpl hok htr⟩
theorem PZ {X:Ctx} {W:World} {μ:Ad} {H:AA} (s3:AP (Je W) W μ H W) (s2:Bb X μ) (hall:∀b p,H.get b=some p→p.ro=true∧p.isAbs=false) (hm:∃g Tg,μ g=some Tg) {P:Program} {HH:Type} {enc:TypeId × Value→HH} {t e:TypeId} {k:EK} (hu:P.underlying t=some (.slice e))
 (hk:J2 P e k=true) (hpl:k.all SK.plain=true) {r:Go.Reach} {bs:Nat} {v:Value} (hok:Cell.okWide P W r bs t v) {held:Bool} {fuel:Nat} {d:DataW HH} {ps:List MemPlace} (htr:DataW.trod enc P W 0 (fun _=>true) held fuel t [v]=some (d,ps)):
 ∃(l:List (EK.C k)) (T:Bv),(∀x∈l,EK.Ki k x)∧l.length≤maxLen∧AP (Je W) W (μ.ext H.next T) (H.alloc (.vec k l true)) W∧Bb X (μ.ext H.next T)∧
  AH (μ.ext H.next T) (.slice (some ⟨H.next,0,some 0⟩) l.length AE) v:=by
 rcases Po s3 s2 hall hu hk hpl hok htr with rfl | h
 ·obtain⟨g,Tg,hg⟩:=hm
  have hk0:k.length≠0:=by
   unfold J2 at hk
   simp only[Bool.and_eq_true]at hk
   intro q
   rw[q]at hk;simp at hk
  obtain⟨h1,h2⟩:=s3.CO hg hk0 true
  exact⟨[],_,fun x hx=>(by cases hx),Nat.zero_le _,h1,s2.mono h2.le,.Cr H.next 0 AE _ none (Ad.Ak _ _ _) (.inr ⟨Nat.le_refl _,Nat.sub_self _⟩)⟩
 ·exact h
end Go.AD

set_option maxRecDepth 1000000
namespace Go.AD
open Go.Proofs
theorem JZ:El LG V0:=An (fun _ _ _ h=>Ap (by kernel_rfl) h) (An (fun _ _ _ h=>Ap (by kernel_rfl) h) (An (cN (by kernel_rfl)) (An (fun _ _ _ h=>Ap (by kernel_rfl) h) (An (fun _ _ _ h=>Ap (by kernel_rfl) h)
 (An (fun _ _ _ h=>h.elim) (An (fun _ _ _ h=>h.elim) (Ax _)))))))
theorem Xy (x:Value) (cur:List (EK.C AT)):El LG (ae x cur):=An (Gq fun args H K h=>Jl (F:=Ay AM 9 [] JI) (by kernel_rfl) (fun _ _ _ h=>Gc h) args H K h) (An (fun _ _ _ h=>Ap (by kernel_rfl) h) (An (fun _ _ _ h=>Ap (by kernel_rfl) h) (An (fun _ _ _ h=>h.elim) (Ax _))))
theorem Xl (x:Value) (cur:List (EK.C AT)):El LG (aQ x cur):=An (Gq fun args H K h=>Jl (F:=Ay AM 9 [] JI) (by kernel_rfl) (fun _ _ _ h=>Gc h) args H K h) (An (fun _ _ _ h=>h.elim) (An (fun _ _ _ h=>Ap (by kernel_rfl) h) (An (fun _ _ _ h=>Ap (by kernel_rfl) h)
 (An (Gq fun args H K h=>Jl (F:=Ay AM 9 [] Kl) (by kernel_rfl) (fun _ _ _ h=>Gc h) args H K h) (An (fun _ _ _ h=>Ap (by kernel_rfl) h) (An (fun _ _ _ h=>Ap (by kernel_rfl) h) (Ax _)))))))
theorem eQ (hw:IN Tryz.prog AM VA):Au Tryz.prog AM eY:=Au.cons (Uo hw) (Au.cons Vy (Au.cons Vo (Au.cons Vk (Au.cons W3 (Au.cons UN (Au.cons Nk (Au.cons cD
 (Au.cons (Jz Tm) (Au.cons Zj (Au.cons Xv (Au.cons (Jz Pg) (Au.cons UC (Au.cons Va (Au.nil _ _))))))))))))))
structure aN (m:AB) (L:List (List (EK.C AT))):Prop where
 ne:L≠[]
 st:m.state=2
 now:m.now=Bi L
 cost:m.cost=BA (Bi L)
 AG:m.AG.length=L.length - 1
 Sq:P4 L
 pre:CN m.base m.AG=L
 len:L.length≤1001
theorem Hk.waits {cfg:List Int} {m:AB} {L:List (List (EK.C AT))} {i:Nat} (h:Hk cfg m L i) (pl:Bool):aN (He m 2 pl) L:=
 ⟨h.ne,rfl,h.inv.now,h.inv.cost,h.inv.AG,h.Sq,h.pre,by have:=h.inv.K4;have:=h.inv.le;omega⟩
theorem Wr (ids:List Nat) (L:List (List (EK.C AT))):V9 ids L=Ae 14 L:=L4 (fun _ _=>rfl) 0 L
theorem cW {x y:Int} {A B:Prop} (h:x=y) (h1:B):(bif x != y then A else B):=by
 rw[show(x != y)=false by simp[h]];exact h1
section
variable {m:AB} {L:List (List (EK.C AT))} {cfg:List Int} {l more:List (EK.C BT)}
theorem aN.last (h:aN m L):L[L.length - 1]? = some (Bi L)∧Fu (Bi L):=⟨Lk h.ne,(h.Sq _ (Ni h.ne)).2⟩
theorem aN.base (h:aN m L):m.base.length < 1000000:=by
 have hm:m.base∈CN m.base m.AG:=by cases m.AG<;>(unfold CN;simp)
 rw[h.pre]at hm
 exact(h.Sq _ hm).2.1
abbrev Wx:Value→AA→Prop:=fun v _=>v= .bool true
theorem cZ (h:aN m L):Bc LG AL Wx (QN l more cfg (.model m) L (Ae 14 L) L.length L.length):=by
 obtain⟨hlast,hsm⟩:=h.last
 have hpos:=List.length_pos_iff.2 h.ne
 obtain⟨n,hn⟩:∃n,L.length=n+1:=⟨L.length - 1,by omega⟩
 have hn1:n < 1000000:=by have:=h.len;omega
 rw[hn,Nat.add_sub_cancel]at hlast
 have hk1:(B2 (Bi L)).length=(Bi L).length:=by unfold B2;rw[List.length_map]
 have hk2:(B9 (Bi L)).length=(Bi L).length:=by unfold B9;rw[List.length_map]
 have hl:=hsm.1
 refine B4 (Xl (PJ n (Bi L)) (Bi L)) (ids:=[]) (Q:=fun v _=>v= .bool true) 900 _ ?_
 rw[cx,h.now,GL,GL,hn]
 have e1:(m.cost==BA (Bi L))=true:=by rw[h.cost];simp
 have e2:((List.length (AB.AG (Fg.nx Ky m [])):Int)==IntKind.wrap .i64 (Int.ofNat (n+1) - 1))=true:=by
  rw[Ok hn1,show List.length (AB.AG (Fg.nx Ky m []))=n from by show m.AG.length=n;rw[h.AG,hn];rfl];simp
 refine AY (fun hh=>absurd hh (Int.lt_irrefl _)) (fun _=>⟨hl,AF (Fz hn1) (AF (EM hn1 hn hlast) ⟨Fy hn1 hlast,Cs hlast,⟨⟨rfl,rfl⟩,hl⟩,⟨rfl,rfl⟩,⟨⟨hk1.symm,rfl⟩,⟨hk1.symm,rfl⟩,by omega,by omega⟩,
  KH ⟨⟨⟨hk2.symm,rfl⟩,⟨hk2.symm,rfl⟩,by omega,by omega⟩,KH ⟨rfl,rfl,AF (Fz hn1) (AF (EM hn1 hn hlast) ⟨Fy hn1 hlast,Cs hlast,⟨⟨rfl,rfl⟩,hsm⟩,⟨rfl,rfl⟩,AF e1 ⟨rfl,rfl,rfl,rfl,rfl,rfl,rfl,AF e2 rfl⟩⟩)⟩⟩⟩)⟩)
theorem ZQ (h:aN m L):∀(q i:Nat),L.length - i=q→i≤L.length→Ai LG 15 AL Wx (QN l more cfg (.model m) L (Ae 14 L) L.length i):=by
 intro q
 induction q with
 | zero=>
  intro i hq hi
  have he:i=L.length:=by omega
  subst he
  exact(cZ h).GF
 | succ q ih=>
  intro i hq hi
  have hlt:i < L.length:=by omega
  have hcur:L[i]? = some L[i]:=List.getElem?_eq_getElem hlt
  have hmem:L[i]∈L:=List.getElem_mem hlt
  obtain⟨_,hsm⟩:=h.Sq _ hmem
  generalize L[i]=cur at hcur hmem hsm
  have hb:=h.base
  have hnow:m.now.length < 1000000:=by rw[h.now];exact h.last.2.1
  have hups:m.AG.length < 1000000:=by rw[h.AG];have:=h.len;omega
  have hk1:(B2 cur).length=cur.length:=by unfold B2;rw[List.length_map]
  have hk2:(B9 cur).length=cur.length:=by unfold B9;rw[List.length_map]
  have hcl:=hsm.1
  refine KU (Xy (PJ i cur) cur) (ids:=[]) (S:=YR) (S2:=YR) (b:=6) (b2:=6) (ks:=[]) (by kernel_rfl) rfl rfl (Q:=fun _ _=>False) (R:=fun c=>c=QN l more cfg (.model m) L (Ae 14 L) L.length (i+1:Nat)) (R2:=fun _=>False) (fun v H h=>h.elim) (fun c h=>by rw[h];exact ih (i+1) (by omega) (by omega)) (fun c h=>h.elim) 900 _ ?_
  rw[cY]
  have hrow:(Nat.blt (0+Int.toNat (i:Int)) (List.length (Ae 14 L))&&G5 (SK.enc SK.tok (List.getD (Ae 14 L) (0+Int.toNat (i:Int)) (EK.AU [SK.tok]))))=true:=by
   rw[IX hcur,Da,Int.toNat_natCast,Nat.zero_add]
   have:Nat.blt i L.length=true:=Nat.ble_eq_true_of_le (by omega)
   rw[this];rfl
  have hval:Value.slice (EF (SK.enc SK.tok (List.getD (Ae 14 L) (0+Int.toNat (i:Int)) (EK.AU [SK.tok])))) (EN (SK.enc SK.tok (List.getD (Ae 14 L) (0+Int.toNat (i:Int)) (EK.AU [SK.tok])))) (EP (SK.enc SK.tok (List.getD (Ae 14 L) (0+Int.toNat (i:Int)) (EK.AU [SK.tok]))))= .slice (some ⟨14,1,some i⟩) cur.length 18446744073709551616:=by
   rw[IX hcur,FO];rfl
  have hok:aD m (B2 cur) (B9 cur):=⟨h.st,hups,by rw[h.pre];exact h.Sq,hk1.trans hk2.symm⟩
  have howE:dO m (B2 cur) (B9 cur)=0:=by
   have:=Yz (L:=L) hmem
   unfold dO
   rw[h.pre]
   cases hf:ET L (B2 cur) (B9 cur)with
   | none=>rw[hf]at this;cases this
   | some x=>rfl
  refine AY (fun _=>?_) (fun hh=>absurd (show(i:Int) < Int.ofNat L.length by simpa using hlt) hh)
  refine AF (ca hlt) (AF hrow ⟨hval,Cs hcur,⟨⟨rfl,rfl⟩,hcl⟩,⟨rfl,rfl⟩,⟨hb,hnow,hups⟩,rfl,rfl,⟨⟨hk1.symm,rfl⟩,⟨hk2.symm,rfl⟩,hok⟩,cW howE ?_⟩)
  rw[Wr,CR (by have:=h.len;omega)]
  refine AY (fun hp=>?_) (fun _=>rfl)
  have hp:(0:Int) < (cur.length:Int):=hp
  have hbd:(decide (0≤Int.ofNat (List.length cur))&&Nat.ble (Int.toNat (Int.ofNat (List.length cur))) (List.length cur)&&decide ((0:Int)≤1)&&Nat.ble 1 (Int.toNat (Int.ofNat (List.length cur))))=true:=by
   rw[show Int.toNat (Int.ofNat (List.length cur))=cur.length from rfl,decide_eq_true (show(0:Int)≤Int.ofNat (List.length cur)from Int.natCast_nonneg _),Nat.ble_eq_true_of_le (Nat.le_refl _),Nat.ble_eq_true_of_le (show 1≤cur.length by omega)];rfl
  exact AF hbd ⟨⟨hb,hnow,hups⟩,AF hbd ⟨rfl,rfl,rfl,⟨h.st,by show cur.length≠cur.length - 1;omega⟩,rfl⟩⟩
theorem Xm (i:Int):∀x,14≤x→(PW l more cfg (.model m) (.Bd L) L.length i).H.get x=none:=by
 intro x hx
 show((((((⟨.leaf,9⟩:AA).alloc _).alloc _).alloc _).alloc _).alloc _).get x=none
 rw[AA.AQ,if_neg (by show x≠13;omega),AA.AQ,if_neg (by show x≠12;omega),AA.AQ,if_neg (by show x≠11;omega),AA.AQ,if_neg (by show x≠10;omega),AA.AQ,if_neg (by show x≠9;omega),Hy]
theorem Rg (i:Int):Ah (PW l more cfg (.model m) (.Bd L) L.length i).H 0 200 [11] []=[11,12,13]:=by kernel_rfl
theorem Ux (i:Int):((PW l more cfg (.model m) (.Bd L) L.length i).H.put 13 (.vec [.tok] (Ae 14 L) false)).alloc (.abs (.mem AT (L.map some)) false)=(QN l more cfg (.model m) L (Ae 14 L) L.length i).H:=by kernel_rfl
theorem fF (h:aN m L):Ai LG 11 AL Wx (PW l more cfg (.model m) (.Bd L) L.length 0):=by
 refine BB.Yg (X:=LG) (a:=11) (o:=0) (q:=none) (b:=13) (s:= .Bd L) (ro:=false) 9 rfl (by kernel_rfl) (by show 13∈Ah (PW l more cfg (.model m) (.Bd L) L.length 0).H 0 200 [11] [];rw[Rg];simp) (by kernel_rfl) fun objs hr=>?_
 cases hr with
 | Bd=>
  refine⟨_,HT (H:=(PW l more cfg (.model m) (.Bd L) L.length 0).H) (b:=13) (ro:=false) (o:= .vec [.tok] (Ae 1 L) false) (o1:= .vec [.tok] (Ae 14 L) false) (p:= .abs (.mem [.str,.str] (L.map some)) false) (p1:= .abs (.mem [.str,.str] (L.map some)) false) (show 13 < 14 by decide) (Xm 0) (IT (ρ:=D1 13 14 2) rfl) rfl,?_⟩
  rw[Ux]
  exact Ai.lower (by decide) (ZQ h L.length 0 (by omega) (by omega))
end
end Go.AD

set_option maxRecDepth 1000000
namespace Go.AD
open Go.Proofs
def Wi (x:EK.C BT):Prop:=Eg x.1∧Eg x.2.1∧Eg x.2.2
section
variable {m:AB} {L:List (List (EK.C AT))} {cfg:List Int} {l more:List (EK.C BT)} {i:Nat} {times:Int}
theorem Hk.dn (h:Hk cfg m L i) {k a:Int} {s v:ByteArray} (hc:EO k a 0 s v) (st:Int) (pl:Bool) (hst:st=2∨st=1∨(st=0∧k=7)):Lx (He m st pl) k a 0 s v:=by
 obtain⟨s6,_,_,_,hmc,_⟩:=h.inv.s
 exact⟨by show m.cfg.length=7;rw[hmc];rfl,hc.ok,hst.imp id (Or.imp id fun h=>⟨h.1,h.2,FM hc⟩)⟩
theorem Hk.fO (h:Hk cfg m L i):He m 0 false=m:=by
 obtain⟨c,lim,bs,nw,cost,AG,st0,pl⟩:=m
 have h1:=h.inv.st
 have h2:=h.inv.pl
 simp only at h1 h2
 subst h1 h2;rfl
theorem bV:X9={ data:=#[48,44,55] }:=rfl
theorem fA (h:Hk cfg m L i) (ht:Eg times):∀(q j:Nat),6 - j=q→j≤6→Ai LG 11 AL Wx (PO l more times cfg (.model (He m 1 false)) (.Bd L) L.length j):=by
 have hE:∀(j:Nat),Ai LG 11 AL Wx (PO l more times cfg (.model (He m 1 false)) (.Bd L) L.length (j+1:Nat))∨6≤j→Ai LG 11 AL Wx (PO l more times cfg (.model (He m 1 false)) (.Bd L) L.length j):=by
  intro j hj
  refine KU JZ (ids:=[]) (S:=Y9) (S2:=eP) (b:=4) (b2:=6) (ks:=[]) (by kernel_rfl) rfl rfl (Q:=fun _ _=>False) (R:=fun c=>j < 6∧c=PO l more times cfg (.model (He m 1 false)) (.Bd L) L.length (j+1:Nat)) (R2:=fun c=>c=PW l more cfg (.model (He m 2 false)) (.Bd L) L.length 0) (fun v H h=>h.elim) (fun c hc=>?_) (fun c hc=>by rw[hc];exact fF (h.waits false)) 600 _ ?_
  ·obtain⟨h6,rfl⟩:=hc
   rcases hj with hj | hj
   ·exact hj
   ·omega
  ·rw[bE,bV]
   have ht1:=ht.1
   have ht2:Int.tmod times 6 < 6:=by rw[Int.tmod_eq_emod_of_nonneg ht1];exact Int.emod_lt_of_pos _ (by decide)
   have ht0:0≤Int.tmod times 6:=by rw[Int.tmod_eq_emod_of_nonneg ht1];exact Int.emod_nonneg _ (by decide)
   rw[FV (x:=Int.tmod times 6) ht0 (by omega)]
   refine AY (fun hlt=>?_) (fun _=>?_)
   ·have hlt:(j:Int) < Int.tmod times 6:=hlt
    obtain⟨c1,c2⟩:=Q9 (m:=He m 1 false) (.inr rfl) 9 (.inr rfl)
    have c2:H5 (He m 1 false) 7 9 0 { data:=#[] } { data:=#[48,44,55] } 0 { data:=#[] }=He m 1 true:=c2
    have hre:Il (He m 1 true) 8 0 0 { data:=#[] } { data:=#[] } 13 { data:=#[] }=some (He m 1 false):=WO rfl 13
    have d1:NH (He m 1 true) 8 0 0 { data:=#[] } { data:=#[] } 13 { data:=#[] }=0:=by unfold NH;rw[hre];rfl
    have d2:H5 (He m 1 true) 8 0 0 { data:=#[] } { data:=#[] } 13 { data:=#[] }=He m 1 false:=by unfold H5;rw[hre];rfl
    rw[c1,c2,d1,d2,CR (by omega)]
    exact⟨h.dn .O7 1 false (.inr (.inl rfl)),Cm rfl ⟨h.dn .KZ 1 true (.inr (.inl rfl)),Cm rfl ⟨rfl,Cm rfl ⟨by omega,rfl⟩⟩⟩⟩
   ·have hre:Il (He m 1 false) 8 0 0 { data:=#[] } { data:=#[] } 0 { data:=#[] }=some (He m 2 false):=WO rfl 0
    have d1:NH (He m 1 false) 8 0 0 { data:=#[] } { data:=#[] } 0 { data:=#[] }=0:=by unfold NH;rw[hre];rfl
    have d2:H5 (He m 1 false) 8 0 0 { data:=#[] } { data:=#[] } 0 { data:=#[] }=He m 2 false:=by unfold H5;rw[hre];rfl
    have hnx:Fg.nx GZ (He m 2 false) []=He m 2 false:=rfl
    obtain⟨e1,e2⟩:=fD (m:=He m 2 false) rfl 8 0 0 { data:=#[] } { data:=#[] } 0 { data:=#[] }
    rw[d1,d2,hnx,e1,e2]
    exact⟨h.dn .KZ 1 false (.inr (.inl rfl)),Cm rfl ⟨rfl,AF rfl ⟨h.dn .KZ 2 false (.inl rfl),Cm rfl rfl⟩⟩⟩
 intro q
 induction q with
 | zero=>intro j hq hj;exact hE j (.inr (by omega))
 | succ q ih=>intro j hq hj;exact hE j (.inl (ih (j+1) (by omega) (by omega)))
theorem fK (h:Hk cfg m L i) (ht:Eg times) (hin:∀x∈more,Wi x) (hml:more.length≤20):∀(q j:Nat),more.length - j=q→j≤more.length→Ai LG 11 AL Wx (Pv l more times cfg (.model (He m 1 false)) (.Bd L) L.length j):=by
 have hfin:∀(j:Nat),j≤more.length→(j < more.length→Ai LG 11 AL Wx (Pv l more times cfg (.model (He m 1 false)) (.Bd L) L.length (j+1:Nat)))→Ai LG 11 AL Wx (Pv l more times cfg (.model (He m 1 false)) (.Bd L) L.length j):=by
  intro j hj hnx
  refine KU JZ (ids:=[]) (S:=Rr) (S2:=Y9) (b:=2) (b2:=4) (ks:=[]) (by kernel_rfl) rfl rfl (Q:=fun _ _=>False) (R:=fun c=>j < more.length∧c=Pv l more times cfg (.model (He m 1 false)) (.Bd L) L.length (j+1:Nat)) (R2:=fun c=>c=PO l more times cfg (.model (He m 1 false)) (.Bd L) L.length (0:Nat)) (fun v H h=>h.elim) (fun c hc=>by rw[hc.2];exact hnx hc.1) (fun c hc=>by rw[hc];exact fA h ht 6 0 rfl (by omega)) 600 _ ?_
  rw[bG]
  refine AY (fun hh=>?_) (fun _=>?_)
  ·have hlt:j < more.length:=by
    have hh:(j:Int) < (more.length:Int):=hh
    omega
   have hx:=hin more[j] (List.getElem_mem hlt)
   rw[Cq hlt,CR (by omega)]
   obtain⟨hg,hk,_,_⟩:=MC more[j].1 more[j].2.1 more[j].2.2
   obtain⟨c1,c2,c3,c4⟩:=dS (m:=He m 1 false) rfl hg (by omega) (by omega)
   rw[c1,c2,c3,c4]
   exact AF (ca hlt) (AF (cb hlt) ⟨hx,rfl,rfl,rfl,rfl,rfl,h.dn hg 1 false (.inr (.inl rfl)),Cm rfl (AF (ca hlt) (AF (cb hlt) ⟨hx,rfl,rfl,rfl,rfl,rfl,h.dn hg 1 false (.inr (.inl rfl)),Cm rfl ⟨hlt,rfl⟩⟩))⟩)
  ·have hre:Il (He m 1 false) 8 0 0 { data:=#[] } { data:=#[] } 13 { data:=#[] }=none:=WO rfl 13
   have d1:NH (He m 1 false) 8 0 0 { data:=#[] } { data:=#[] } 13 { data:=#[] }=7:=by unfold NH;rw[hre];rfl
   have d2:H5 (He m 1 false) 8 0 0 { data:=#[] } { data:=#[] } 13 { data:=#[] }=He m 1 false:=by unfold H5;rw[hre];rfl
   rw[d1,d2]
   exact⟨h.dn .KZ 1 false (.inr (.inl rfl)),Cm rfl rfl⟩
 intro q
 induction q with
 | zero=>intro j hq hj;exact hfin j hj fun hlt=>by omega
 | succ q ih=>intro j hq hj;exact hfin j hj fun hlt=>ih (j+1) (by omega) (by omega)
theorem fP (ht:Eg times) (hin2:∀x∈more,Wi x) (hml:more.length≤20) (hin:∀x∈l,Wi x) (hl:l.length≤40) {s:Int}:∀(q j:Nat) (m:AB) (L:List (List (EK.C AT))),l.length - j=q→j≤l.length→Hk (Dt s) m L j→
 Ai LG 11 AL Wx (Sk l more times (Dt s) (.model m) (.Bd L) L.length j):=by
 have hcfg:[List.getD (Dt s) 0 0,List.getD (Dt s) 1 0,List.getD (Dt s) 2 0,List.getD (Dt s) 3 0,List.getD (Dt s) 4 0,List.getD (Dt s) 5 0,List.getD (Dt s) 6 0]=Dt s:=rfl
 intro q
 induction q with
 | zero=>
  intro j m L hq hj h
  refine KU JZ (ids:=[]) (S:=Wf) (S2:=Rr) (b:=0) (b2:=2) (ks:=[]) (by kernel_rfl) rfl rfl (Q:=fun _ _=>False) (R:=fun _=>False) (R2:=fun c=>c=Pv l more times (Dt s) (.model (He m 1 false)) (.Bd L) L.length (0:Nat)) (fun v H h=>h.elim) (fun c hc=>hc.elim) (fun c hc=>by rw[hc];exact fK h ht hin2 hml more.length 0 (by omega) (by omega)) 600 _ ?_
  rw[Wc]
  refine AY (fun hh=>?_) (fun _=>?_)
  ·exfalso
   have hh:(j:Int) < (l.length:Int):=hh
   omega
  ·obtain⟨c1,c2⟩:=Q9 (m:=m) (.inl h.inv.st) 0 (.inl rfl)
   have hd:=h.dn .OL 0 false (.inr (.inr ⟨rfl,rfl⟩))
   rw[h.fO]at hd
   rw[c1,c2]
   exact⟨hd,Cm rfl rfl⟩
 | succ q ih=>
  intro j m L hq hj h
  have hlt:j < l.length:=by omega
  have hx:=hin l[j] (List.getElem_mem hlt)
  refine KU JZ (ids:=[]) (S:=Wf) (S2:=Rr) (b:=0) (b2:=2) (ks:=[]) (by kernel_rfl) rfl rfl (Q:=fun _ _=>False) (R:=fun c=>c=Sk l more times (Dt s) (.model (cM (Dt s) m (Bi L) l[j].1 l[j].2.1 l[j].2.2)) (.Bd (Gg (Dt s) L l[j].1 l[j].2.1 l[j].2.2)) (Gg (Dt s) L l[j].1 l[j].2.1 l[j].2.2).length (j+1:Nat)) (R2:=fun _=>False)
   (fun v H h=>h.elim) (fun c hc=>by rw[hc];exact ih (j+1) _ _ (by omega) (by omega) (h.act (by omega))) (fun c hc=>hc.elim) 600 _ ?_
  rw[Wc]
  simp only[hcfg]
  refine AY (fun _=>?_) (fun hh=>absurd (show(j:Int) < Int.ofNat l.length by simpa using hlt) hh)
  refine AF (ca hlt) (AF (cb hlt) ?_)
  rw[Cq hlt,CR (by omega)]
  refine⟨⟨⟨trivial,trivial⟩,h.da (by omega) hx⟩,As (fun hk=>?_) (fun hk=>rfl)⟩
  have hkk:Gg (Dt s) L l[j].1 l[j].2.1 l[j].2.2=L:=by
   unfold Qv at hk
   simp only[Bool.and_eq_true,Bool.not_eq_true']at hk
   unfold Gg JM
   rw[hk.1,hk.2];rfl
  rw[hkk]
theorem c9 (hin:∀x∈l,Wi x) (hin2:∀x∈more,Wi x) (ht:Eg times) {slots:Int} (hs:Eg slots):Ai LG 11 AL Wx (st AL 210 [.int .u8 slots,PM l.length,DW 10 more.length,.int .u8 times] (dL l more)):=by
 obtain⟨s0,s7⟩:=Vq hs
 refine KU JZ (ids:=[]) (S:=Wf) (S2:=Rr) (b:=0) (b2:=2) (ks:=[]) (by kernel_rfl) rfl rfl (Q:=fun v _=>v= .bool true) (R:=fun c=>(l.length≤40∧more.length≤20)∧c=Sk l more times (Dt (Int.tmod slots 8)) (.model (m0 (Int.tmod slots 8))) (.Bd [[]]) [([]:List (EK.C AT))].length (0:Nat)) (R2:=fun _=>False)
  (fun v H h=>h) (fun c hc=>by rw[hc.2];exact fP ht hin2 hc.1.2 hin hc.1.1 l.length 0 _ _ (by omega) (by omega) (eG s0 s7)) (fun c hc=>hc.elim) 400 _ ?_
 rw[cI]
 refine AY (fun _=>rfl) (fun e1=>AY (fun _=>rfl) (fun e2=>⟨hs,⟨?_,?_⟩,rfl⟩))
 ·have e1:¬(l.length:Int) > 40:=e1
  omega
 ·have e2:¬(more.length:Int) > 20:=e2
  omega
end
end Go.AD
