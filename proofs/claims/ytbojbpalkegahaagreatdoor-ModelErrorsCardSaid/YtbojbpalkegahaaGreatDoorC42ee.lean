/-
  Part of the proof: the machine that runs a program by fixed orders, and that each of its runs is a run of the model; or a run of it in parts. No conditions.
-/
import Derived.Test.YtbojbpalkegahaaGreatDoorIdRow
import Derived.Test.YtbojbpalkegahaaGreatDoorC42b
import Derived.Test.YtbojbpalkegahaaGreatDoorC42ed
namespace Go.AD
def K2 (P:Program) (x:String × DataW Unit):Option (Nat × List Value):=
 match x.2 with
 | .iface _ _=>(P.globalNamed x.1).map fun g=>(g,[A5])
 | _=>match VX P x with
  | some p=>bif p.2.all flat then some p else none
  | none=>none
theorem RM {P:Program} {w:World} {sp:Nat→Bool} {fuel:Nat} {t:TypeId} {cs:List Value} {nm:String} {d:DataW Unit} {ps:List MemPlace} (h:DataW.trod (fun _=>()) P w 0 sp false fuel t cs=some (.iface nm d,ps)):∃te pe,cs=[.iface te pe]:=by
 cases fuel with
 | zero=>cases h
 | succ fuel=>
  unfold DataW.trod at h
  split at h
  all_goals first
   | (exact⟨_,_,rfl⟩)
   | (cases h;done)
   | (exfalso;simp[Option.bind_eq_some_iff]at h;done)
   | (exfalso;split at h<;>simp[Option.bind_eq_some_iff]at h;done)
   | (exfalso;split at h<;>(try split at h)<;>(try simp[Option.map_eq_some_iff,Option.bind_eq_some_iff]at h);done)
theorem PT {P:Program} {w:World}:∀(laid:List (String × DataW Unit)) (ps:List MemPlace),DataW.LaidVars P w laid ps→∀(n:Nat) (x:String × DataW Unit) (p:Nat × List Value),laid[n]? = some x→K2 P x=some p→∃a t fz,w.heap[p.1]? = some (.cells a t fz)∧Ie p.2 a.toList:=by
 intro laid
 induction laid with
 | nil=>intro ps _ n x p hx;simp at hx
 | cons y laid ih=>
  intro ps hl n x p hx h0
  obtain⟨nm,d⟩:=y
  obtain⟨g,t,cs,fuel,p1,q1,h1,h2,h3,h4,h5,_⟩:=hl
  cases n with
  | zero=>
   simp only[List.getElem?_cons_zero,Option.some.injEq]at hx
   subst hx
   simp only[World.var?,h1,Option.bind_some]at h3
   split at h3
   ·rename_i cs' t' fz hh
    cases h3
    unfold K2 at h0
    simp only at h0
    split at h0
    ·rename_i nm2 d2
     rw[h1]at h0
     cases h0
     obtain⟨te,pe,e⟩:=RM h4
     exact⟨_,_,_,hh,by rw[e];exact .iface te pe⟩
    ·split at h0
     ·rename_i p0 J2
      cases hf:p0.2.all flat
      ·rw[hf]at h0;cases h0
      ·rw[hf]at h0
       cases h0
       simp only[VX,h1,Option.bind_some,h2,Option.map_eq_some_iff]at J2
       obtain⟨l,hl,rfl⟩:=J2
       exact⟨_,_,_,hh,by rw[aW 12 fuel t _ d p1 l h4 hl];exact .plain _ hf⟩
     ·cases h0
   ·cases h3
  | succ n=>exact ih q1 h5 n x p (by simpa using hx) h0
theorem Wk {X:Ctx} {laid:List (String × DataW Unit)} {W:World} (hL:laidMetH X.P laid W) (hp:(laid.all fun x=>x.2.handleName?.isNone)=true) (ns:List Nat) (hm:(ns.map fun n=>(laid[n]?).bind (K2 X.P))=X.laid.map some) (hnd:(X.laid.map Prod.fst).Nodup):DR X (M0 W) W:=by
 rw[MakeChecks.laidMetH_plain _ _ _ hp]at hL
 obtain⟨ps,h1,_⟩:=hL
 refine⟨hnd,fun p hp=>?_⟩
 have hmem:some p∈ns.map fun n=>(laid[n]?).bind (K2 X.P):=by rw[hm];exact List.mem_map_of_mem hp
 obtain⟨n,_,hn⟩:=List.mem_map.1 hmem
 rw[Option.bind_eq_some_iff]at hn
 obtain⟨x,hx,hxp⟩:=hn
 obtain⟨a,t,fz,h2,h3⟩:=PT laid ps h1 n x p hx hxp
 refine⟨?_,a,t,fz,h2,h3⟩
 exact(Array.getElem?_eq_some_iff.1 h2).1
end Go.AD

namespace Go.AD
open Go.ChangeShapes
def Qx (P:Program):Nat→TypeId→Option (List (Nat × SK))
 | 0,_=>none
 | f+1,t=>match P.underlying t with
  | some (.int k)=>some [(0,.int k)]
  | some .bool=>some [(0,.bool)]
  | some .string=>some [(0,.str)]
  | some (.struct fields)=>(fields.toList.mapM fun fd=>(Qx P f fd.type).map fun l=>l.map fun p=>(fd.offset+p.1,p.2)).map List.flatten
  | some (.array n e)=>((List.range n).mapM fun i=>(Qx P f e).map fun l=>l.map fun p=>(i * P.cellsOf e+p.1,p.2)).map List.flatten
  | _=>none
def SK.Lt:(s:SK)→s.C→Prop
 | .int k,n=>(Lit.int k n).wf=true
 | .str,s=>s.size≤maxLen
 | _,_=>True
def EK.Lt:(k:EK)→EK.C k→Prop
 | [],_=>True
 | [s],x=>s.Lt x
 | s::t::r,x=>s.Lt x.1∧EK.Lt (t::r) x.2
section
variable {P:Program} {w:World} {H:Type} {enc:TypeId × Value→H}
theorem mapM_mem {α β:Type} {f:α→Option β}:∀{l:List α} {m:List β},l.mapM f=some m→∀x∈l,∃y,f x=some y
 | [],_,_,x,hx=>by cases hx
 | a::l,m,h,x,hx=>by
  rw[List.mapM_cons]at h
  cases ha:f a with
  | none=>rw[ha]at h;simp at h
  | some y=>
   rw[ha]at h
   simp only[Option.pure_def,Option.bind_eq_bind,Option.bind_some]at h
   cases hl:l.mapM f with
   | none=>rw[hl]at h;simp at h
   | some m'=>
    rcases List.mem_cons.1 hx with rfl | hx
    ·exact⟨y,ha⟩
    ·exact mapM_mem hl x hx
theorem mapM_flat {α β:Type} {f:α→Option (List β)}:∀{l:List α} {m:List (List β)},l.mapM f=some m→∀y∈m.flatten,∃x∈l,∃z,f x=some z∧y∈z
 | [],m,h,y,hy=>by
  simp at h;subst h;simp at hy
 | a::l,m,h,y,hy=>by
  rw[List.mapM_cons]at h
  cases ha:f a with
  | none=>rw[ha]at h;simp at h
  | some z=>
   rw[ha]at h
   simp only[Option.pure_def,Option.bind_eq_bind,Option.bind_some]at h
   cases hl:l.mapM f with
   | none=>rw[hl]at h;simp at h
   | some m'=>
    rw[hl]at h
    simp only[Option.bind_some,Option.some.injEq]at h
    subst h
    rw[List.flatten_cons,List.mem_append]at hy
    rcases hy with hy | hy
    ·exact⟨a,by simp,z,ha,hy⟩
    ·obtain⟨x,h1,z2,h2,h3⟩:=mapM_flat hl y hy
     exact⟨x,by simp[h1],z2,h2,h3⟩
theorem Ir {α:Type} {l:List α} {o n i:Nat} {x:α} (h:((l.drop o).take n)[i]? = some x):l[o+i]? = some x:=by
 rw[List.getElem?_take]at h
 split at h
 ·rwa [List.getElem?_drop]at h
 ·cases h
theorem LN {α β:Type} {f:α→Option β}:∀{l:List α} {m:List β},l.mapM f=some m→m.length=l.length
 | [],m,h=>by simp at h;subst h;rfl
 | a::l,m,h=>by
  rw[List.mapM_cons]at h
  cases ha:f a with
  | none=>rw[ha]at h;simp at h
  | some y=>
   rw[ha]at h
   simp only[Option.pure_def,Option.bind_eq_bind,Option.bind_some]at h
   cases hl:l.mapM f with
   | none=>rw[hl]at h;simp at h
   | some m'=>
    rw[hl]at h
    simp only[Option.bind_some,Option.some.injEq]at h
    subst h
    simp[LN hl]
theorem Tn {base:Nat} {sp:Nat→Bool} {held:Bool}:∀(f:Nat) (t:TypeId) (K:List (Nat × SK)),Qx P f t=some K→∀(fuel:Nat) (cs:List Value) (d:DataW H) (ps:List MemPlace),DataW.trod enc P w base sp held fuel t cs=some (d,ps)→
 ∀p∈K,∃x:p.2.C,cs[p.1]? = some (p.2.enc x)∧p.2.Lt x:=by
 intro f
 induction f with
 | zero=>intro t K h;cases h
 | succ f ih=>
  intro t K hK fuel cs d ps h p hp
  cases fuel with
  | zero=>cases h
  | succ fuel=>
   unfold Qx at hK
   unfold DataW.trod at h
   cases hu:P.underlying t with
   | none=>rw[hu]at hK;cases hK
   | some D=>
    rw[hu]at hK h
    cases D with
    | int k=>
     simp only[Option.some.injEq]at hK
     subst hK
     simp only[List.mem_singleton]at hp
     subst hp
     simp only at h
     split at h
     all_goals first
      | (split at h;· rename_i hc;obtain⟨rfl,hc2⟩:=hc;simp_all only[TypeDesc.int.injEq,Option.some.injEq];exact⟨_,rfl,hc2⟩;· cases h)
      | (simp_all;done)
      | (simp_all;subst_vars;exact⟨_,rfl,h.1.2⟩)
    | bool=>
     simp only[Option.some.injEq]at hK
     subst hK
     simp only[List.mem_singleton]at hp
     subst hp
     simp only at h
     split at h
     all_goals first
      | (simp_all;done)
      | exact⟨_,rfl,trivial⟩
    | string=>
     simp only[Option.some.injEq]at hK
     subst hK
     simp only[List.mem_singleton]at hp
     subst hp
     simp only at h
     split at h
     all_goals first
      | (split at h;· rename_i hc;exact⟨_,rfl,hc⟩;· cases h)
      | (simp_all;done)
      | (simp_all;exact⟨_,rfl,h.1⟩)
    | struct fs=>
     simp only[Option.map_eq_some_iff]at hK
     obtain⟨m,hm,rfl⟩:=hK
     obtain⟨fd,hfd,z,hz,hpz⟩:=mapM_flat hm p hp
     simp only[Option.map_eq_some_iff]at hz
     obtain⟨l,hl,rfl⟩:=hz
     obtain⟨q,hq,rfl⟩:=List.mem_map.1 hpz
     have key:∃xs,(fs.toList.mapM fun f=>DataW.trod enc P w base sp held fuel f.type ((cs.drop f.offset).take (P.cellsOf f.type)))=some xs:=by
      simp only at h
      by_cases hc:cs.length=P.cellsOf t
      ·rw[if_pos hc,Option.map_eq_some_iff]at h
       obtain⟨xs,hxs,_⟩:=h
       exact⟨xs,hxs⟩
      ·rw[if_neg hc]at h;cases h
     obtain⟨xs,hxs⟩:=key
     obtain⟨⟨d2,ps2⟩,hy⟩:=mapM_mem hxs fd hfd
     obtain⟨x,h1,h2⟩:=ih fd.type l hl fuel _ d2 ps2 hy q hq
     exact⟨x,Ir h1,h2⟩
    | array n e=>
     simp only[Option.map_eq_some_iff]at hK
     obtain⟨m,hm,rfl⟩:=hK
     obtain⟨i,hi,z,hz,hpz⟩:=mapM_flat hm p hp
     simp only[Option.map_eq_some_iff]at hz
     obtain⟨l,hl,rfl⟩:=hz
     obtain⟨q,hq,rfl⟩:=List.mem_map.1 hpz
     have key:∃xs,((List.range n).mapM fun i=>DataW.trod enc P w base sp held fuel e ((cs.drop (i * P.cellsOf e)).take (P.cellsOf e)))=some xs:=by
      simp only at h
      by_cases hc:cs.length=P.cellsOf t
      ·rw[if_pos hc,Option.map_eq_some_iff]at h
       obtain⟨xs,hxs,_⟩:=h
       exact⟨xs,hxs⟩
      ·rw[if_neg hc]at h;cases h
     obtain⟨xs,hxs⟩:=key
     obtain⟨⟨d2,ps2⟩,hy⟩:=mapM_mem hxs i hi
     obtain⟨x,h1,h2⟩:=ih e l hl fuel _ d2 ps2 hy q hq
     exact⟨x,Ir h1,h2⟩
    | _=>cases hK
theorem Kk:∀(k:EK) (o:Nat) (cs:List Value),cs.length=o+k.length→(∀i s,k[i]? = some s→∃x:s.C,cs[o+i]? = some (s.enc x)∧s.Lt x)→∃x:EK.C k,cs.drop o=EK.enc k x∧EK.Lt k x
 | [],o,cs,hl,_=>⟨(),by rw[List.drop_of_length_le (by simp at hl;omega)];rfl,trivial⟩
 | [s],o,cs,hl,h=>by
  obtain⟨x,h1,h2⟩:=h 0 s rfl
  refine⟨x,?_,h2⟩
  have hlt:o < cs.length:=by simp at hl;omega
  rw[List.drop_eq_getElem_cons hlt,List.drop_of_length_le (by simp at hl;omega)]
  rw[Nat.add_zero,List.getElem?_eq_getElem hlt]at h1
  have h1:=Option.some.inj h1
  rw[h1];rfl
 | s::t::r,o,cs,hl,h=>by
  obtain⟨x,h1,h2⟩:=h 0 s rfl
  have hlt:o < cs.length:=by simp at hl;omega
  obtain⟨y,h3,h4⟩:=Kk (t::r) (o+1) cs (by simp at hl ⊢;omega) (fun i s' hi=>by
   obtain⟨z,e1,e2⟩:=h (i+1) s' (by simpa using hi)
   exact⟨z,by rw[show o+1+i=o+(i+1)from by omega];exact e1,e2⟩)
  refine⟨(x,y),?_,h2,h4⟩
  rw[List.drop_eq_getElem_cons hlt,h3]
  rw[Nat.add_zero,List.getElem?_eq_getElem hlt]at h1
  have h1:=Option.some.inj h1
  rw[h1];rfl
def Ni (P:Program) (t:TypeId) (k:EK):Bool:=
 Nat.beq (P.cellsOf t) k.length&& !(Nat.beq k.length 0)&&(match Qx P 8 t with | some K=>decide (K.map Prod.fst=List.range k.length)&&decide (K.map Prod.snd=k) | none=>false)
theorem U9 {base:Nat} {sp:Nat→Bool} {held:Bool} {t:TypeId} {k:EK} (hk:Ni P t k=true) {fuel:Nat} {cs:List Value} {d:DataW H} {ps:List MemPlace} (hl:cs.length=P.cellsOf t)
 (h:DataW.trod enc P w base sp held fuel t cs=some (d,ps)):∃x:EK.C k,cs=EK.enc k x∧EK.Lt k x:=by
 unfold Ni at hk
 simp only[Bool.and_eq_true]at hk
 obtain⟨⟨h1,_⟩,h2⟩:=hk
 have h1:=Nat.eq_of_beq_eq_true h1
 split at h2
 ·rename_i K hK
  simp only[Bool.and_eq_true,decide_eq_true_eq]at h2
  obtain⟨h2,h3⟩:=h2
  obtain⟨x,e1,e2⟩:=Kk k 0 cs (by rw[hl,h1,Nat.zero_add]) (fun i s hi=>by
   have hi1:(K.map Prod.snd)[i]? = some s:=by rw[h3];exact hi
   rw[List.getElem?_map,Option.map_eq_some_iff]at hi1
   obtain⟨p,hp,rfl⟩:=hi1
   have hi2:(K.map Prod.fst)[i]? = some p.1:=by rw[List.getElem?_map,hp];rfl
   rw[h2]at hi2
   have hlt:i < k.length:=by
    rcases Nat.lt_or_ge i k.length with q | q
    ·exact q
    ·rw[List.getElem?_eq_none q]at hi;cases hi
   rw[List.getElem?_range hlt]at hi2
   have hi2:=Option.some.inj hi2
   obtain⟨x,e1,e2⟩:=Tn 8 t K hK fuel cs d ps h p (List.mem_of_getElem? hp)
   exact⟨x,by rw[Nat.zero_add,hi2];exact e1,e2⟩)
  exact⟨x,by rw[←e1,List.drop_zero],e2⟩
 ·cases h2
theorem NO {α:Type} {Q:Nat→α→Prop}:∀(n:Nat),(∀i,i < n→∃x,Q i x)→∃l:List α,l.length=n∧∀i x,l[i]? = some x→Q i x
 | 0,_=>⟨[],rfl,fun i x h=>by cases h⟩
 | n+1,h=>by
  obtain⟨l,h1,h2⟩:=NO n (fun i hi=>h i (by omega))
  obtain⟨x,hx⟩:=h n (by omega)
  refine⟨l++[x],by simp[h1],fun i y hi=>?_⟩
  rw[List.getElem?_append]at hi
  split at hi
  ·exact h2 i y hi
  ·rename_i hlt
   have:i - l.length=0:=by
    rcases Nat.eq_zero_or_pos (i - l.length)with q | q
    ·exact q
    ·rw[List.getElem?_eq_none (by simp;omega)]at hi;cases hi
   rw[this]at hi
   have hi:x=y:=by simpa using hi
   subst hi
   have:i=n:=by omega
   rw[this];exact hx
theorem trod_slice {t e:TypeId} {k:EK} (hu:P.underlying t=some (.slice e)) (hk:Ni P e k=true) {held:Bool} {fuel:Nat} {v:Value} {d:DataW H} {ps:List MemPlace}
 (h:DataW.trod enc P w 0 (fun _=>true) held fuel t [v]=some (d,ps)):
 v= .slice none 0 0∨∃a len cap,v= .slice (some a) len cap∧len≤cap∧cap≤maxLen∧∃l:List (EK.C k),l.length=cap∧∀i x,l[i]? = some x→(w.cells? 0 (a.add (i * k.length)) k.length=some (EK.enc k x)∧EK.Lt k x):=by
 cases fuel with
 | zero=>cases h
 | succ fuel=>
  have hcl:P.cellsOf e=k.length:=by
   unfold Ni at hk
   simp only[Bool.and_eq_true]at hk
   exact Nat.eq_of_beq_eq_true hk.1.1
  unfold DataW.trod at h
  rw[hu]at h
  simp only at h
  split at h
  all_goals try (simp_all;done)
  ·rename_i _ e2 a len cap he hcs
   have he:e=e2:=by simpa using he
   subst he
   right
   have hv:v= .slice (some a) len cap:=by
    simpa using hcs
   subst hv
   split at h
   ·rename_i hc
    obtain⟨_,hc1,hc2⟩:=hc
    refine⟨a,len,cap,rfl,hc1,hc2,?_⟩
    rw[Option.bind_eq_some_iff]at h
    obtain⟨elems,he1,h⟩:=h
    simp only[if_true,Option.map_eq_some_iff]at h
    obtain⟨rest,he2,_⟩:=h
    refine NO cap fun i hi=>?_
    have hel:∃y,((w.cells? 0 (a.add (i * P.cellsOf e)) (P.cellsOf e)).bind (DataW.trod enc P w 0 (fun _=>true) held fuel e))=some y:=by
     rcases Nat.lt_or_ge i len with q | q
     ·exact mapM_mem he1 i (by simpa using q)
     ·obtain⟨y,hy⟩:=mapM_mem he2 (i - len) (by simp;omega)
      exact⟨y,by rw[show len+(i - len)=i from by omega]at hy;exact hy⟩
    obtain⟨⟨d2,ps2⟩,hy⟩:=hel
    rw[Option.bind_eq_some_iff]at hy
    obtain⟨cs,hcs,hy⟩:=hy
    have hlen:cs.length=P.cellsOf e:=by
     unfold World.cells? at hcs
     rw[if_pos (Nat.zero_le _)]at hcs
     exact(LN hcs).trans (by simp)
    obtain⟨x,e1,e2⟩:=U9 hk hlen hy
    rw[hcl]at hcs
    exact⟨x,by rw[hcs,e1],e2⟩
   ·cases h
end
end Go.AD

namespace Go.AD
section
variable {base:Env} {W0:World} {μ:Ah} {H:AA} {W:World}
theorem AP.TG (h:AP base W0 μ H W) (hemp:∀b,H.get b=none) {T:CN} {o:AJ} {o':Obj} (hro:o.ro=true) (hna:o.isAbs=false) (hT:W.heap[T.c]? = some o') (ho:CZ μ T o o'):
 AP base W0 (μ.ext H.next T) (H.alloc o) W:=by
 have hle:μ.le (μ.ext H.next T):=Ah.G7 T (h.fresh _ (Nat.le_refl _)).2
 have hlt:T.c < W.heap.size:=by
  rcases Nat.lt_or_ge T.c W.heap.size with q | q
  ·exact q
  ·rw[Array.getElem?_eq_none q]at hT;cases hT
 have key:∀b p,(H.alloc o).get b=some p→b=H.next∧p=o:=by
  intro b p e
  rw[AA.AR]at e
  by_cases q:b=H.next
  ·rw[if_pos q]at e;cases e;exact⟨q,rfl⟩
  ·rw[if_neg q,hemp]at e;cases e
 refine⟨?_,?_,?_,?_,?_,h.size,h.below,h.out,h.os,?_,Ah.le_trans h.le hle,h.grow⟩
 ·intro b p hb T' hT'
  obtain⟨rfl,rfl⟩:=key b p hb
  rw[Ah.A8]at hT';cases hT'
  exact⟨o',hT,ho.mono hle⟩
 ·intro b p hb hr T' hT'
  obtain⟨rfl,rfl⟩:=key b p hb
  rw[hro]at hr;cases hr
 ·intro b1 b2 o1 o2 h1 h2 T1 T2 m1 m2 _ _ hc
  rw[(key b1 o1 h1).1,(key b2 o2 h2).1]
 ·intro b hb
  have hb:H.next+1≤b:=hb
  refine⟨?_,by rw[Ah.Cf _ _ (by omega)];exact(h.fresh b (by omega)).2⟩
  cases hg:(H.alloc o).get b with
  | none=>rfl
  | some p=>have:=(key b p hg).1;omega
 ·intro b T' hT'
  by_cases e:b=H.next
  ·subst e;rw[Ah.A8]at hT';cases hT';exact hlt
  ·rw[Ah.Cf _ _ e]at hT';exact h.bound b T' hT'
 ·refine⟨fun _ _=>False,fun b a ro T' h1 h2=>?_,fun b a ro T' h1 h2=>?_⟩
  ·obtain⟨rfl,e⟩:=key b _ h1
   rw[←e]at hna;cases hna
  ·obtain⟨rfl,e⟩:=key b _ h1
   rw[←e]at hna;cases hna
end
theorem JP (n b:Nat):(⟨.leaf,n⟩:AA).get b=none:=by
 cases h:(⟨.leaf,n⟩:AA).get b with
 | none=>rfl
 | some o=>
  exfalso
  have:(Tr.leaf:Tr AJ).get b=some o:=h
  unfold Tr.get at this
  cases hp:FQ.of b<;>rw[hp]at this<;>cases this
theorem NM {k:EK} {c:List Value}:∀(l:List (EK.C k)) (o:Nat),(∀i x,l[i]? = some x→∀j v,(EK.enc k x)[j]? = some v→c[o+(i * k.length+j)]? = some v)→(c.drop o).take (l.length * k.length)=Ar k l
 | [],o,_=>by simp[Ar]
 | x::l,o,h=>by
  have ih:=NM l (o+k.length) (fun i y hi j v hj=>by
   have:=h (i+1) y (by simpa using hi) j v hj
   rw[Nat.succ_mul]at this
   rw[show o+k.length+(i * k.length+j)=o+(i * k.length+k.length+j)from by omega]
   exact this)
  rw[Cb,List.length_cons,Nat.succ_mul,Nat.add_comm (l.length * k.length),List.take_add,List.drop_drop,ih]
  congr 1
  apply List.ext_getElem?
  intro j
  rcases Nat.lt_or_ge j k.length with q | q
  ·rw[List.getElem?_take,if_pos q,List.getElem?_drop]
   have hl:j < (EK.enc k x).length:=by rw[EK.CA];exact q
   rw[List.getElem?_eq_getElem hl]
   have:=h 0 x rfl j _ (List.getElem?_eq_getElem hl)
   rw[Nat.zero_mul,Nat.zero_add]at this
   exact this
  ·rw[List.getElem?_take,if_neg (by omega),List.getElem?_eq_none (by rw[EK.CA];exact q)]
theorem Xz {w:World} {b o n:Nat} {cs:List Value} {c:Array Value} {t:TypeId} {fz:Nat × Nat} (hb:w.heap[b]? = some (.cells c t fz)) (h:w.cells? 0 ⟨b,o,none⟩ n=some cs):∀(j:Nat) v,cs[j]? = some v→c.toList[o+j]? = some v:=by
 unfold World.cells? at h
 rw[if_pos (Nat.zero_le _)]at h
 intro j v hj
 have hl:=LN h
 have hjn:j < n:=by
  rcases Nat.lt_or_ge j n with q | q
  ·exact q
  ·rw[List.getElem?_eq_none (by rw[hl];simpa using q)]at hj;cases hj
 have key:∀(l:List Nat) (m:List Value),l.mapM (fun i=>w.cell? ((⟨b,o,none⟩:Addr).add i))=some m→∀(i a:Nat) v,l[i]? = some a→m[i]? = some v→w.cell? ((⟨b,o,none⟩:Addr).add a)=some v:=by
  intro l
  induction l with
  | nil=>intro m _ i a v hi;cases hi
  | cons x r ih=>
   intro m hm i a v hi hv
   rw[List.mapM_cons]at hm
   cases hx:w.cell? ((⟨b,o,none⟩:Addr).add x)with
   | none=>rw[hx]at hm;simp at hm
   | some y=>
    rw[hx]at hm
    simp only[Option.pure_def,Option.bind_eq_bind,Option.bind_some]at hm
    cases hr:r.mapM (fun i=>w.cell? ((⟨b,o,none⟩:Addr).add i))with
    | none=>rw[hr]at hm;simp at hm
    | some m'=>
     rw[hr]at hm
     simp only[Option.bind_some,Option.some.injEq]at hm
     subst hm
     cases i with
     | zero=>
      have h1:x=a:=by simpa using hi
      have h2:y=v:=by simpa using hv
      subst h1 h2;exact hx
     | succ i=>exact ih m' hr i a v (by simpa using hi) (by simpa using hv)
 have:=key _ _ h j j v (by rw[List.getElem?_range hjn]) hj
 unfold World.cell? at this
 have e:((⟨b,o,none⟩:Addr).add j)=⟨b,o+j,none⟩:=by
  unfold Addr.add
  by_cases hj:j=0
  ·subst hj;simp
  ·simp[hj]
 rw[e]at this
 simp only[hb]at this
 simpa using this
theorem FA:∀(k:EK),k.all SK.plain=true→∀x:EK.C k,(EK.enc k x).all flat=true
 | [],_,_=>rfl
 | [s],h,x=>by
  cases s with
  | int k=>rfl
  | bool=>rfl
  | str=>rfl
  | tok=>simp[SK.plain]at h
 | s::t::r,h,x=>by
  rw[List.all_cons,Bool.and_eq_true]at h
  simp only[EK.enc,List.all_cons,Bool.and_eq_true]
  refine⟨?_,FA (t::r) h.2 x.2⟩
  cases s with
  | int k=>rfl
  | bool=>rfl
  | str=>rfl
  | tok=>simp[SK.plain]at h
theorem R5 (μ:Ah) (k:EK) (hk:k.all SK.plain=true) (l:List (EK.C k)):Aq μ (Ar k l) (Ar k l):=by
 refine Ek _ ?_
 unfold Ar
 rw[List.all_eq_true]
 intro v hv
 obtain⟨x,_,hx⟩:=List.mem_flatMap.1 hv
 exact List.all_eq_true.1 (FA k hk x) v hx
theorem U6 {X:Ctx} {W:World} (hL:DR X (M0 W) W) {n:Nat} (hn:(X.laid.all fun p=>Nat.blt p.1 n)=true) {P:Program} {H:Type} {enc:TypeId × Value→H} {t e:TypeId} {k:EK} (hu:P.underlying t=some (.slice e))
 (hk:Ni P e k=true) (hpl:k.all SK.plain=true) {r:Go.Reach} {bs:Nat} {v:Value} (hok:Cell.okWide P W r bs t v) {held:Bool} {fuel:Nat} {d:DataW H} {ps:List MemPlace} (htr:DataW.trod enc P W 0 (fun _=>true) held fuel t [v]=some (d,ps)):
 ∃μ,AP (M0 W) W μ ⟨.leaf,n⟩ W∧Br X μ∧(v= .slice none 0 0∨∃(l:List (EK.C k)) (T:CN),(∀x∈l,EK.Lt k x)∧l.length≤maxLen∧AP (M0 W) W (μ.ext n T) ((⟨.leaf,n⟩:AA).alloc (.vec k l true)) W∧Br X (μ.ext n T)∧
  AH (μ.ext n T) (.slice (some ⟨n,0,some 0⟩) l.length AF) v):=by
 obtain⟨s1,s2⟩:=OI (X:=X) hL (none_le _) (fun _ hi=>hi) (n:=n) (OU hn)
 have s3:AP (M0 W) W (LS X.laid) ⟨.leaf,n⟩ W:=s1.sub (H':=⟨.leaf,n⟩) (fun b o hb=>by rw[JP]at hb;cases hb) (by rw[Iv])
 refine⟨LS X.laid,s3,s2,?_⟩
 rcases trod_slice hu hk htr with rfl | ⟨a,len,cap,rfl,h1,h2,l,h3,h4⟩
 ·exact .inl rfl
 ·right
  have hk0:0 < k.length:=by
   unfold Ni at hk
   simp only[Bool.and_eq_true]at hk
   rcases Nat.eq_zero_or_pos k.length with q | q
   ·rw[q]at hk;simp at hk
   ·exact q
  have hsh:∃b o c t' fz,a=⟨b,o,none⟩∧W.heap[b]? = some (.cells c t' fz):=by
   unfold Cell.okWide Cell.ok at hok;rw[hu]at hok
   simp only at hok
   obtain⟨_,_,h3⟩:=hok
   obtain⟨_,hs,row,cells,hsh,_⟩:=h3
   obtain⟨b,o,sp⟩:=a
   simp only at hs
   subst hs
   unfold World.shape? at hsh
   simp only at hsh
   split at hsh
   ·rename_i c t' fz hb;exact⟨b,o,c,t',fz,rfl,hb⟩
   ·cases hsh
  obtain⟨b,o,c,t',⟨f1,f2⟩,rfl,hb⟩:=hsh
  have hcell:∀i x,l[i]? = some x→∀j v,(EK.enc k x)[j]? = some v→c.toList[o+(i * k.length+j)]? = some v:=by
   intro i x hi j v hj
   obtain⟨q1,_⟩:=h4 i x hi
   have e:((⟨b,o,none⟩:Addr).add (i * k.length))=⟨b,o+i * k.length,none⟩:=by
    unfold Addr.add
    by_cases hz:i * k.length=0
    ·simp[hz]
    ·simp[hz]
   rw[e]at q1
   have:=Xz hb q1 j v hj
   rw[Nat.add_assoc]at this
   exact this
  have hok2:∀x∈l.take len,EK.Lt k x:=fun x hx=>by
   obtain⟨i,hi⟩:=List.getElem?_of_mem (List.mem_of_mem_take hx)
   exact(h4 i x hi).2
  have hlen:(l.take len).length=len:=by rw[List.length_take];omega
  have hmax:maxLen=9223372036854775807:=by unfold maxLen;rfl
  by_cases hc0:cap=0
  ·have hl0:len=0:=by omega
   subst hc0 hl0
   have hl:l=[]:=List.eq_nil_of_length_eq_zero h3
   subst hl
   refine⟨[],⟨b,0,c.size,k.length⟩,by simp,Nat.zero_le _,?_,s2.mono (Ah.G7 _ (s3.fresh n (Nat.le_refl _)).2),?_⟩
   ·refine s3.TG (fun q=>JP n q) rfl rfl hb (.vec _ k [] true _ (.cells _ _ _ _ c t' f1 f2 rfl ?_ (by simp) (fun q=>by cases q)))
    simp[Ar];exact .nil
   ·exact .DC n 0 AF ⟨b,0,c.size,k.length⟩ (some (b,o)) (Ah.A8 _ _ _) (.inr ⟨Nat.le_refl _,Nat.sub_self _⟩)
  ·have hsz:o+cap * k.length≤c.size:=by
    have hx:cap - 1 < l.length:=by omega
    have hj:k.length - 1 < (EK.enc k l[cap - 1]).length:=by rw[EK.CA];omega
    have:=hcell (cap - 1) l[cap - 1] (List.getElem?_eq_getElem hx) (k.length - 1) _ (List.getElem?_eq_getElem hj)
    have hlt:o+((cap - 1) * k.length+(k.length - 1)) < c.toList.length:=by
     rcases Nat.lt_or_ge (o+((cap - 1) * k.length+(k.length - 1))) c.toList.length with q | q
     ·exact q
     ·rw[List.getElem?_eq_none q]at this;cases this
    have e:cap * k.length=(cap - 1) * k.length+k.length:=by
     obtain⟨m,rfl⟩:∃m,cap=m+1:=⟨cap - 1,by omega⟩
     rw[Nat.succ_mul];rfl
    simp at hlt
    omega
   refine⟨l.take len,⟨b,o,c.size - o,k.length⟩,hok2,by rw[hlen];omega,?_,s2.mono (Ah.G7 _ (s3.fresh n (Nat.le_refl _)).2),?_⟩
   ·refine s3.TG (fun q=>JP n q) rfl rfl hb (.vec _ k _ true _ (.cells _ _ _ _ c t' f1 f2 rfl ?_ (by show c.size=o+(c.size - o);omega) (fun q=>by cases q)))
    have e:=NM (c:=c.toList) (l.take len) o (fun i x hi j v hj=>hcell i x (by
     rw[List.getElem?_take]at hi
     split at hi
     ·exact hi
     ·cases hi) j v hj)
    rw[B4]
    show Aq _ _ ((c.toList.drop o).take _)
    rw[e]
    exact R5 _ k hpl (l.take len)
   ·rw[hlen]
    refine .Bt n 0 len AF cap o ⟨b,o,c.size - o,k.length⟩ (Ah.A8 _ _ _) (.inr ⟨Nat.le_refl _,by omega,h1,?_,.inr (by omega)⟩) (.inl (by simp)) ?_
    ·show 0 * k.length+cap * k.length≤c.size - o
     omega
    ·show c.size - o≠0
     have:=Nat.mul_pos (show 0 < cap by omega) hk0
     omega
theorem Lv {X:Ctx} {W:World} (hok:Cr X (M0 W) W) (hplan:Ef X) {f:FuncId} {n N:Nat} (he:entry X.P f=some (n,Bb X.P f [])) {μ:Ah} {H:AA} (hH:AP (M0 W) W μ H W) (hl:Br X μ)
 {args:List Value} {args':Array Value} (ha:Aq μ args args'.toList) (hn:args.length≤n) {v:Value} (hrun:As X N f (fun v' _=>v'=v) (GF f (B3 0 args .leaf) n (Bb X.P f []) H)) (hv:flat v=true):
 Calls X.P f args' W fun e W'=>e= .returned v∧Df W W':=by
 intro cs
 obtain⟨c',⟨v2,Hf,hd,rfl⟩,μ1,fr1,cs1,W1,st,m1⟩:=hrun (M0 W) W (fun b T h=>by cases h) hok hplan cs _ _ [] W (Gr hH hl he ha hn)
 obtain⟨rfl,hf,v',e1,e2,e3⟩:=Hn m1 hd
 have hs':Steps X.P (lone (Frame.enter X.P f args' .normal) cs W) (lone fr1 cs W1):=by simpa using st
 refine⟨.returned v',W1,fr1,⟨?_,e2.Yc⟩,hs',hf,e1⟩
 rw[FU hv e3]
end Go.AD

set_option maxRecDepth 1000000
namespace Go.AD
open Go.Proofs
section
variable {s:Int} {k a b:Int} {key val:ByteArray} {Be:Int}
theorem Z4 (l:List (EK.C Cx)) (sl:Value) (cfg:List Int) (m:AB) (n:Nat) (cur:List (EK.C Ab)) (i:Int):∀x,14≤x→(Rc l sl Be k a b key val cfg (.model m) (.maps n cur) (n+1) i).H.get x=none:=by
 intro x hx
 show(((((dP l).alloc _).alloc _).alloc _).alloc _).get x=none
 rw[AA.AR,if_neg (by show x≠13;omega),AA.AR,if_neg (by show x≠12;omega),AA.AR,if_neg (by show x≠11;omega),AA.AR,if_neg (by show x≠10;omega)]
 unfold dP
 rw[AA.AR,if_neg (by show x≠9;omega),JP]
theorem Uk (l:List (EK.C Cx)) (sl:Value) (cfg:List Int) (m:AB) (n:Nat) (cur:List (EK.C Ab)) (i:Int):Ax (Rc l sl Be k a b key val cfg (.model m) (.maps n cur) (n+1) i).H 0 200 [11] []=[11,12,13]:=by kernel_rfl
theorem V5 (l:List (EK.C Cx)) (sl:Value) (cfg:List Int) (m:AB) (n:Nat) (cur:List (EK.C Ab)) (i:Int):((Rc l sl Be k a b key val cfg (.model m) (.maps n cur) (n+1) i).H.put 13 (.vec [.tok] (Ad n 14 cur.length) false)).alloc (.vec Ab cur false)=
 (cG l sl Be k a b key val cfg (n+1) i [.abs (.pack (.model m)) false,.vec [.tok] (Ad n 14 cur.length) false,.vec Ab cur false]).H:=by kernel_rfl
theorem TC {l:List (EK.C Cx)} {sl:Value} {cfg:List Int} {m:AB} {n:Nat} {cur:List (EK.C Ab)} {i:Int} {Q:Value→AA→Prop} (h:As NY 10 AO Q (cG l sl Be k a b key val cfg (n+1) i [.abs (.pack (.model m)) false,.vec [.tok] (Ad n 14 cur.length) false,.vec Ab cur false])):
 As NY 10 AO Q (Rc l sl Be k a b key val cfg (.model m) (.maps n cur) (n+1) i):=by
 refine A6.ZS (X:=NY) (a:=11) (o:=0) (q:=none) (b:=13) (s:= .maps n cur) (ro:=false) 9 rfl (by kernel_rfl) (by show 13∈Ax (Rc l sl Be k a b key val cfg (.model m) (.maps n cur) (n+1) i).H 0 200 [11] [];rw[Uk];simp) (by kernel_rfl) fun objs hr=>?_
 cases hr with
 | maps=>
  refine⟨_,JW (H:=(Rc l sl Be k a b key val cfg (.model m) (.maps n cur) (n+1) i).H) (b:=13) (ro:=false) (o:= .vec [.tok] (Ad n 1 cur.length) false) (o1:= .vec [.tok] (Ad n 14 cur.length) false) (p:= .vec Ab cur false) (p1:= .vec Ab cur false) (show 13 < 14 by decide) (Z4 l sl cfg m n cur i) (IU (ρ:=D0 13 14 2) rfl) rfl,?_⟩
  rw[V5];exact h
theorem ZC (hop:Gl k a b key val) (h0:0≤Be) (h1:Be < 65536) (l:List (EK.C Cx)) (hin:∀x∈l,bG x) (hl:l.length≤40):∀(q i:Nat) (m:AB) (n:Nat) (cur:List (EK.C Ab)),l.length - i=q→i≤l.length→DX (B9 s) m n cur i→
 As NY 10 AO (fun v _=>v= .bool true) (Rc l (L4 l.length) Be k a b key val (B9 s) (.model m) (.maps n cur) (n+1) i):=by
 intro q
 induction q with
 | zero=>
  intro i m n cur hq hi h
  exact TC (aI ⟨⟨i,h⟩,hop,h0,h1⟩ l (by show ¬(i:Int) < (l.length:Int);omega)).Gq
 | succ q ih=>
  intro i m n cur hq hi h
  have hcfg:[List.getD (B9 s) 0 0,List.getD (B9 s) 1 0,List.getD (B9 s) 2 0,List.getD (B9 s) 3 0,List.getD (B9 s) 4 0,List.getD (B9 s) 5 0,List.getD (B9 s) 6 0]=B9 s:=rfl
  have hlt:i < l.length:=by omega
  have hx:=hin l[i] (List.getElem_mem hlt)
  have hnx:DX (B9 s) (cn (B9 s) m cur l[i].1 l[i].2.1 l[i].2.2) (VS (B9 s) n cur l[i].1 l[i].2.1 l[i].2.2) (YX (B9 s) cur l[i].1 l[i].2.1 l[i].2.2) (i+1):=by
   obtain⟨_,hk,hs,hv⟩:=QX l[i].1 l[i].2.1 l[i].2.2
   exact Zh h hk hs hv (by omega)
  refine Bd N5 (ids:=[]) (S:=dU) (by kernel_rfl) (Q:=fun _ _=>False) (R:=fun c=>c=Rc l (L4 l.length) Be k a b key val (B9 s) (.model (cn (B9 s) m cur l[i].1 l[i].2.1 l[i].2.2)) (.maps (VS (B9 s) n cur l[i].1 l[i].2.1 l[i].2.2) (YX (B9 s) cur l[i].1 l[i].2.1 l[i].2.2)) (VS (B9 s) n cur l[i].1 l[i].2.1 l[i].2.2+1) (i+1:Nat))
   (fun v H h=>h.elim) (fun c h=>by rw[h];exact ih (i+1) _ _ _ (by omega) (by omega) hnx) 400 _ ?_
  rw[eU]
  simp only[hcfg]
  refine AT (fun _=>?_) (fun h=>absurd (show(i:Int) < Int.ofNat l.length by simpa using hlt) h)
  refine AE (ca hlt) (AE (cb hlt) ?_)
  rw[getD_at hlt,D9 (by omega)]
  refine⟨⟨⟨trivial,trivial⟩,⟨i,by omega,h⟩,hx⟩,Az (fun hk=>?_) (fun hk=>?_)⟩
  ·have hkk:VS (B9 s) n cur l[i].1 l[i].2.1 l[i].2.2=n∧YX (B9 s) cur l[i].1 l[i].2.1 l[i].2.2=cur:=by
    unfold NC at hk
    simp only[Bool.and_eq_true,Bool.not_eq_true']at hk
    unfold VS YX Me ME
    rw[hk.1,hk.2];exact⟨rfl,rfl⟩
   rw[hkk.1,hkk.2,E4];rfl
  ·rw[E4];rfl
theorem cY (l:List (EK.C Cx)) (hin:∀x∈l,bG x) {slots:Int} (hs:Gk slots) (ha:Ok a) (h0:0≤Be) (h1:Be < 65536):
 As NY 10 AO (fun v _=>v= .bool true) (st AO 198 [.int .u8 slots,L4 l.length,IX k a b key val,.int .u16 Be] (dP l)):=by
 obtain⟨s0,s7⟩:=S8 hs
 refine Bd N5 (ids:=[]) (S:=dU) (by kernel_rfl) (Q:=fun v _=>v= .bool true) (R:=fun c=>(l.length≤40∧Gl k a b key val)∧c=Rc l (L4 l.length) Be k a b key val (B9 (Int.tmod slots 8)) (.model (m0 (Int.tmod slots 8))) (.maps 0 []) (0+1) (0:Nat))
  (fun v H h=>h) (fun c h=>by rw[h.2];exact ZC h.1.2 h0 h1 l hin h.1.1 l.length 0 _ 0 [] (by omega) (by omega) (eX s0 s7)) 400 _ ?_
 rw[cS]
 refine AT (fun _=>rfl) (fun e1=>AT (fun _=>rfl) (fun e2=>AT (fun _=>rfl) (fun e3=>⟨hs,⟨?_,ha,?_,?_⟩,by rw[E4];rfl⟩)))
 ·have e1:¬(l.length:Int) > 40:=e1
  omega
 ·have e2:¬(key.size:Int) > 600:=e2
  omega
 ·have e3:¬(val.size:Int) > 600:=e3
  omega
theorem cJ {slots:Int} (hs:Gk slots) (ha:Ok a) (h0:0≤Be) (h1:Be < 65536):
 As NY 10 AO (fun v _=>v= .bool true) (st AO 198 [.int .u8 slots,.slice none 0 0,IX k a b key val,.int .u16 Be] (dP [])):=by
 obtain⟨s0,s7⟩:=S8 hs
 refine Bd N5 (ids:=[]) (S:=dU) (by kernel_rfl) (Q:=fun v _=>v= .bool true) (R:=fun c=>Gl k a b key val∧c=Rc [] (.slice none 0 0) Be k a b key val (B9 (Int.tmod slots 8)) (.model (m0 (Int.tmod slots 8))) (.maps 0 []) (0+1) 0)
  (fun v H h=>h) (fun c h=>by rw[h.2];exact TC (WV ⟨⟨0,eX s0 s7⟩,h.1,h0,h1⟩ []).Gq) 400 _ ?_
 rw[Z7]
 refine AT (fun _=>rfl) (fun e2=>AT (fun _=>rfl) (fun e3=>⟨hs,⟨ha,?_,?_⟩,rfl⟩))
 ·have e2:¬(key.size:Int) > 600:=e2
  omega
 ·have e3:¬(val.size:Int) > 600:=e3
  omega
end
end Go.AD
