/-
  Part of the proof: fixed runs of a program. No conditions.
-/
import Derived.Test.YtfnfimeefeigdaaGreatDoorIdIop
noncomputable section
namespace Go.AB
section
variable {P:Program}{base:Env}{W0:World}{Z:AW}{H:AA}{W:World}
def SK.BJ:(s:SK)->s.C
 | .int _=>(0:Int)
 | .bool=>false
 | .str=>ByteArray.empty
 | .tok=>(Value.nilIface:Value)
def EK.BJ:(k:EK)->EK.C k
 | []=>()
 | [s]=>s.BJ
 | s::t::r=>(s.BJ,EK.BJ (t::r))
def kindOf(P:Program):Nat->TypeId->Option EK
 | 0,_=>none
 | f+1,t=>match P.underlying t with
  | some (.int k)=>some [.int k]
  | some .bool=>some [.bool]
  | some .string=>some [.str]
  | some (.struct fields)=>fields.toList.foldr (fun fd acc=>match kindOf P f fd.type,acc with
   | some a,some b=>some (a++b)
   | _,_=>none) (some [])
  | some (.array n e)=>match kindOf P f e with
   | some a=>some (List.replicate n a).flatten
   | none=>none
  | _=>none
theorem AH.swap(h:AH base W0 Z H W){b:Nat}{o o1:AJ}(hb:H.get b=some o)(hs:∀T o',Z b=some T->Cb Z T o o'->Cb Z T o1 o')(hro:o1.ro=o.ro)(hna:o.isAbs=false)(hna1:o1.isAbs=false)(hvd:∀T,Z b=some T->o.void T->o1.void T):AH base W0 Z (H.put b o1) W:=by
 have key:∀b' o',(H.put b o1).get b'=some o'->∃p,H.get b'=some p/\(b'=b->p=o/\o'=o1)/\(b'≠b->p=o'):=by
  intro b' o' hb';rw[AA.AQ]at hb'
  by_cases e:b'=b
  .rw[AAZ e]at hb';cases hb';exact⟨o,by rw[e];exact hb,fun _=>⟨rfl,rfl⟩,fun hn=>absurd e hn⟩
  .rw[AAW e]at hb';exact⟨o',hb',fun he=>absurd he e,fun _=>rfl⟩
 refine⟨?_,?_,?_,?_,h.bound,h.size,h.below,h.out,h.os,?_,h.le,h.grow⟩
 .intro b' o' hb' T hm;obtain⟨p,h1,h2,h3⟩:=key b' o' hb';obtain⟨q,h4,h5⟩:=h.obj b' p h1 T hm
  by_cases e:b'=b
  .obtain⟨rfl,rfl⟩:=h2 e;rw[e]at hm;exact⟨q,h4,hs _ _ hm h5⟩
  .rw[h3 e]at h5;exact⟨q,h4,h5⟩
 .intro b' o' hb' hr T hm hv;obtain⟨p,h1,h2,h3⟩:=key b' o' hb';refine h.own b' p h1 ?_ T hm ?_
  .by_cases e:b'=b
   .obtain⟨rfl,rfl⟩:=h2 e;rw[<-hro];exact hr
   .rw[h3 e];exact hr
  .by_cases e:b'=b
   .obtain⟨rfl,rfl⟩:=h2 e;rw[e]at hm;exact fun hw=>hv (hvd T hm hw)
   .rw[h3 e];exact hv
 .intro b1 b2 r1 r2 h1 h2 T1 T2 m1 m2 v1 v2 hcc hrr;obtain⟨p1,q1,k1,l1⟩:=key b1 r1 h1;obtain⟨p2,q2,k2,l2⟩:=key b2 r2 h2;have er:∀x px ox,(x=b->px=o/\ox=o1)->(x≠b->px=ox)->px.ro=ox.ro:=fun x px ox a1 a2=>by
   by_cases e:x=b
   .rw[(a1 e).1,(a1 e).2];exact hro.symm
   .rw[a2 e]
  refine h.inj b1 b2 p1 p2 q1 q2 T1 T2 m1 m2 ?_ ?_ hcc (by rw[er b1 p1 _ k1 l1,er b2 p2 _ k2 l2];exact hrr)
  .by_cases e:b1=b
   .obtain⟨rfl,rfl⟩:=k1 e;rw[e]at m1;exact fun hw=>v1 (hvd T1 m1 hw)
   .rw[l1 e];exact v1
  .by_cases e:b2=b
   .obtain⟨rfl,rfl⟩:=k2 e;rw[e]at m2;exact fun hw=>v2 (hvd T2 m2 hw)
   .rw[l2 e];exact v2
 .intro b' hb';have hlt:=h.lt hb;have hb2:H.next<=b':=hb';refine⟨?_,(h.fresh b' hb2).2⟩;rw[AA.AQ,AAW (by omega)];exact(h.fresh b' hb2).1
 .obtain⟨φ,q⟩:=h.abs;have abs:∀b' a ro,(H.put b o1).get b'=some (.abs a ro)->H.get b'=some (.abs a ro):=by
   intro b' a ro hb';obtain⟨p,h1,h2,h3⟩:=key b' _ hb'
   by_cases e:b'=b
   .rw[<-(h2 e).2]at hna1;cases hna1
   .rw[<-h3 e];exact h1
  refine⟨φ,fun b' a ro T h1 h2=>q.rep b' a ro T (abs _ _ _ h1) h2,fun b' a ro T h1 h2 b2 o2 T2 h3 h4 h5=>?_⟩;obtain⟨p,g1,g2,g3⟩:=key b2 o2 h3;have h7:¬o2.void T2->¬p.void T2:=fun h6=>by
   by_cases e:b2=b
   .obtain⟨rfl,rfl⟩:=g2 e;rw[e]at h4;exact fun hw=>h6 (hvd T2 h4 hw)
   .rw[g3 e];exact h6
  obtain⟨r1,r2⟩:=q.C3 b' a ro T (abs _ _ _ h1) h2 b2 p T2 g1 h4 h5;refine⟨fun h6=>r1 (h7 h6),fun e=>r2 ?_⟩
  by_cases e2:b2=b
  .rw[(g2 e2).2]at e;rw[hna1]at e;cases e
  .rw[g3 e2];exact e
theorem AH.Lq(h:AH base W0 Z H W){b:Nat}{k:EK}{l:List (EK.C k)}{ro:Bool}(hb:H.get b=some (.vec k l ro))(hnv:∀T,Z b=some T->¬(AJ.vec k l ro).void T):AH base W0 Z (H.put b (.cells (Ac k l) k.length ro)) W:=
 h.swap hb (fun T o' hm ho=>by
  cases ho with
  | vec _ _ _ _ hc=>exact hc
  | D7 _ _ _ _ hr hk=>exact absurd ⟨rfl,hr,hk⟩ (hnv T hm)) rfl rfl rfl (fun T hm hv=>absurd hv (hnv T hm))
theorem QC{k:EK}{l:List (EK.C k)}{ro:Bool}{T:BQ}(h:0 < l.length):¬(AJ.vec k l ro).void T:=by
 rintro⟨rfl,_⟩;simp at h
theorem AH.JN(h:AH base W0 Z H W){b:Nat}{k:EK}{l:List (EK.C k)}{ro:Bool}(hb:H.get b=some (.cells (Ac k l) k.length ro)):AH base W0 Z (H.put b (.vec k l ro)) W:=
 h.swap hb (fun T o' _ ho=> .vec T k l ro o' ho) rfl rfl rfl (fun _ _ hv=>absurd hv id)
theorem AH.elem(h:AH base W0 Z H W){b:Nat}{k:EK}{l:List (EK.C k)}{ro:Bool}(hb:H.get b=some (.vec k l ro)){T:BQ}(hm:Z b=some T):T.e=k.length:=by
 obtain⟨o',_,ho⟩:=h.obj b _ hb T hm;cases ho with
 | vec _ _ _ _ hc=>cases hc with
  | cells _ _ _ _ _ _ _ he=>exact he.symm
 | D7 _ _ _ he _=>exact he.symm
theorem AH.F3(h:AH base W0 Z H W){b:Nat}{T:BQ}(hm:Z b=some T){k:EK}(hk:k.length≠0)(ro:Bool):
 AH base W0 (Z.ext H.next ⟨T.c,0,0,k.length⟩) (H.alloc (.vec k [] ro)) W/\Ah Z H (Z.ext H.next ⟨T.c,0,0,k.length⟩) (H.alloc (.vec k [] ro)):=by
 have hn:=(h.fresh H.next (AAT _)).2;have hle:=AW.CV ⟨T.c,0,0,k.length⟩ hn;have hlt:=h.bound b T hm;have hvd:(AJ.vec k [] ro).void ⟨T.c,0,0,k.length⟩:=⟨rfl,rfl,hk⟩;have key:∀i X,(Z.ext H.next ⟨T.c,0,0,k.length⟩) i=some X->(i=H.next/\X=⟨T.c,0,0,k.length⟩)\/(i≠H.next/\Z i=some X):=by
  intro i X e
  by_cases hi:i=H.next
  .subst hi;rw[AW.AY]at e;cases e;exact .inl ⟨rfl,rfl⟩
  .rw[AW.BB _ _ hi]at e;exact .inr ⟨hi,e⟩
 have key2:∀b' p,(H.alloc (.vec k [] ro)).get b'=some p->(b'=H.next/\p= .vec k [] ro)\/(b'≠H.next/\H.get b'=some p):=by
  intro b' p hb';rw[AA.AN]at hb'
  by_cases e:b'=H.next
  .rw[AAZ e]at hb';cases hb';exact .inl ⟨e,rfl⟩
  .rw[AAW e]at hb';exact .inr ⟨e,hb'⟩
 have both:∀{b' p X},(H.alloc (.vec k [] ro)).get b'=some p->(Z.ext H.next ⟨T.c,0,0,k.length⟩) b'=some X->p.void X\/(b'≠H.next/\H.get b'=some p/\Z b'=some X):=by
  intro b' p X h1 h2;rcases key2 b' p h1 with⟨e,rfl⟩ | ⟨e,g⟩
  .subst e;rw[AW.AY]at h2;cases h2;exact .inl hvd
  .rw[AW.BB _ _ e]at h2;exact .inr ⟨e,g,h2⟩
 have both2:∀{b' p X},(H.alloc (.vec k [] ro)).get b'=some p->(Z.ext H.next ⟨T.c,0,0,k.length⟩) b'=some X->p= .vec k [] ro\/(b'≠H.next/\H.get b'=some p/\Z b'=some X):=by
  intro b' p X h1 h2;rcases key2 b' p h1 with⟨e,rfl⟩ | ⟨e,g⟩
  .exact .inl rfl
  .rw[AW.BB _ _ e]at h2;exact .inr ⟨e,g,h2⟩
 refine⟨⟨?_,?_,?_,?_,?_,h.size,h.below,h.out,h.os,?_,AW.le_trans h.le hle,h.grow⟩,⟨hle,by simp[AA.alloc],?_⟩⟩
 .intro b' p hb X hm';rcases key2 b' p hb with⟨rfl,rfl⟩ | ⟨hne,hb'⟩
  .rw[AW.AY]at hm';cases hm'
   exact⟨_,ABA hlt,.D7 _ _ _ _ rfl rfl hk⟩
  .rw[AW.BB _ _ hne]at hm';obtain⟨o2,h2,h3⟩:=h.obj b' p hb' X hm';exact⟨o2,h2,h3.mono hle⟩
 .intro b' p hb hr X hm' hv;rcases both hb hm' with hv' | ⟨_,g1,g2⟩
  .exact absurd hv' hv
  .exact h.own b' p g1 hr X g2 hv
 .intro b1 b2 p1 p2 h1 h2 T1 T2 m1 m2 v1 v2 hcc hrr;rcases both h1 m1 with hv' | ⟨_,g1,g2⟩
  .exact absurd hv' v1
  .rcases both h2 m2 with hv' | ⟨_,g3,g4⟩
   .exact absurd hv' v2
   .exact h.inj b1 b2 p1 p2 g1 g3 T1 T2 g2 g4 v1 v2 hcc hrr
 .intro b' hb;have hb':H.next+1<=b':=hb;refine⟨?_,?_⟩
  .rw[AA.AN,AAW (by omega)];exact(h.fresh b' (by omega)).1
  .rw[AW.BB _ _ (by omega)];exact(h.fresh b' (by omega)).2
 .intro b' X hm';rcases key b' X hm' with⟨rfl,rfl⟩ | ⟨_,hm2⟩
  .exact hlt
  .exact h.bound b' X hm2
 .obtain⟨φ,q⟩:=h.abs;refine⟨φ,?_,?_⟩
  .intro b' a r T' hb' hm';rcases both2 hb' hm' with hv' | ⟨_,g1,g2⟩
   .cases hv'
   .obtain⟨r1,r2⟩:=q.rep b' a r T' g1 g2;exact⟨r1.mono hle,r2⟩
  .intro b' a r T' hb' hm' b2 o2 T2 hb2 hm2 hne2;rcases both2 hb' hm' with hv' | ⟨_,g1,g2⟩
   .cases hv'
   .rcases key2 b2 o2 hb2 with⟨e,rfl⟩ | ⟨e,g3⟩
    .subst e;rw[AW.AY]at hm2;cases hm2
     exact⟨fun hv2=>absurd hvd hv2,fun e=>by cases e⟩
    .rw[AW.BB _ _ e]at hm2;exact q.C3 b' a r T' g1 g2 b2 o2 T2 g3 hm2 hne2
 .intro b' hb hm';have hb:b' < H.next:=hb;refine⟨?_,?_⟩
  .rw[AW.BB _ _ (by omega)];exact hm'
  .rw[AA.AN,AAW (by omega)]
theorem Zo(k:EK)(l:List (EK.C k))(i o n:Nat)(hi:i < l.length)(hn:o+n<=k.length):((Ac k l).drop (i * k.length+o)).take n=((EK.enc k (l.getD i (EK.BJ k))).drop o).take n:=by
 rw[<-ACV,E4];have:l.drop i=l.getD i (EK.BJ k)::l.drop (i+1):=by
  rw[ABm hi]
  congr 1
  rw[AAX,AAU hi];rfl
 rw[this,D3,ACr,ADC];have hl:(EK.enc k (l.getD i (EK.BJ k))).length=k.length:=EK.C0 _ _;have h0:o - (EK.enc k (l.getD i (EK.BJ k))).length=0:=by omega
 rw[h0,AA5,AAo];have h1:n - ((EK.enc k (l.getD i (EK.BJ k))).length - o)=0:=by omega
 rw[h1,ACd,ABq]
def aX(P:Program)(t:TypeId)(b o i:Nat)(H:AA):DJ:=
 match H.get b with
 | some (.vec k l _)=>
  bif Nat.blt i l.length then
   match P.underlying t,D6 P t with
   | some d,some n=>
    bif Nat.ble (o+n) k.length then
     bif Ej d then some (.agg ⟨((EK.enc k (l.getD i (EK.BJ k))).drop o).take n⟩)
     else(EK.enc k (l.getD i (EK.BJ k)))[o]?
    else none
   | _,_=>none
  else none
 | _=>none
theorem cv(h:AH base W0 Z H W){t:TypeId}{b o i:Nat}(hlo:o < AT){a' v:Value}(ha:AF Z (.pointer (some ⟨b,o,some i⟩)) a')(hi:aX P t b o i H=some v):
 ∃v',(Instr.loadAt t a').run P W= .ok v' W/\AF Z v v':=by
 unfold aX at hi;split at hi
 .rename_i k l ro hb;cases hlt:Nat.blt i l.length
  .simp[hlt]at hi
  .simp only[hlt,AAO]at hi;have hlt:i < l.length:=VC hlt;split at hi
   .rename_i d n hd hn;cases hon:Nat.ble (o+n) k.length
    .simp[hon]at hi
    .simp only[hon,AAO]at hi;have hon:=VC hon;cases ha with
     | Hn _ _ _ _ _ _ _ e=>exact absurd hlo (by rw[e];exact ABY _)
     | HV _ _ _ T hm=>
      have he:=h.elem hb hm;have hdv:=h.Lq hb fun T _=>QC (by omega)
      have hg:(H.put b (.cells (Ac k l) k.length ro)).get b=some (.cells (Ac k l) k.length ro):=by rw[AA.AQ,AAZ rfl]
      rw[he];refine Pr hdv (.ptr b (i * k.length+o) T hm) ?_;unfold NB;simp only[hg,hd,hn];have hlen:((EK.enc k (l.getD i (EK.BJ k))).drop o).take n=((Ac k l).drop (i * k.length+o)).take n:=(Zo k l i o n hlt hon).symm;have hll:(((EK.enc k (l.getD i (EK.BJ k))).drop o).take n).length=n:=by
       rw[AAh,AAo,EK.C0];omega
      cases hag:Ej d
      .simp only[hag,AAR]at hi ⊢;rcases AAt o k.length with ho | ho
       .have h1:=Zo k l i o 1 hlt (by omega);have h2:=congrArg (fun x:AL=>x[0]?) h1;simp only[ABO,ABP,AB6]at h2;simp only[Nat.lt_one_iff,ACA]at h2;rw[h2];exact hi
       .rw[AAq (by rw[EK.C0];exact ho)]at hi;cases hi
      .simp only[hag,AAO]at hi ⊢;rw[<-hlen,hll,AAu];exact hi
   .cases hi
 .cases hi
end
end Go.AB
