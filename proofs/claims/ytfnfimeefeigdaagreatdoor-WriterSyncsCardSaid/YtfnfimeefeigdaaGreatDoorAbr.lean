/-
  Part of the proof: the machine that runs a program by fixed orders, and that each of its runs is a run of the model; or a run of it in parts. No conditions.
-/
import Derived.Test.YtfnfimeefeigdaaGreatDoorIdTell3
import Derived.Test.YtfnfimeefeigdaaGreatDoorIdDrawn
import Derived.Test.YtfnfimeefeigdaaGreatDoorChecked
import Derived.Test.YtfnfimeefeigdaaGreatDoorIdIop
import Derived.Test.YtfnfimeefeigdaaGreatDoorProg
noncomputable section
set_option maxRecDepth 1000000
namespace Go.AD
theorem Am.split {μ:Ae}:∀{a b l:AL},Am μ (a++b) l->∃l1 l2,l=l1++l2/\Am μ a l1/\Am μ b l2
 | [],_,l,h=>⟨[],l,rfl,.nil,h⟩
 | _::a,_,_,h=>by
  cases h with
  | cons h1 h2=>
   obtain⟨l1,l2,rfl,k1,k2⟩:=Am.split (a:=a) h2;exact⟨_::l1,l2,rfl,.cons h1 k1,k2⟩
def Cp (b:Nat):Nat->Nat->List (EK.C [.tok])
 | _,0=>[]
 | j,n+1=>Value.pointer (some ⟨b,Aa,some j⟩)::Cp b (j+1) n
theorem SS {μ ν:Ae} {a b:Nat} {T T':Bc} (hm:μ a=some T) (hb:ν b=some T'):∀(n j:Nat) (l:AL),(∀i,j<=i->i < j+n->Kn T'.e i=Kn T.e i)->Am μ (Cp a j n) l->Am ν (Cp b j n) l
 | 0,_,_,_,h=>by cases h;exact .nil
 | n+1,j,_,he,h=>by
  cases h with
  | cons h1 h2=>
   refine .cons ?_ (SS hm hb n (j+1) _ (fun i h3 h4=>he i (by omega) (by omega)) h2);cases h1 with
   | HS _ _ _ _ _ hlo=>exact absurd hlo (uB _)
   | HY _ _ _ T2 M h3 h4 _=>
    rw[hm]at h3;cases h3
    exact .HY b Aa j T' M hb (by rw[he j (GO _) (by omega)];exact h4) rfl
section
variable {base:Env} {W0:World} {μ:Ae} {H:AA} {W:World}
theorem AJ.tO (h:AJ base W0 μ H W) {a r z:Nat} {rest:List (EK.C [.tok])} {L:List (Option Pk)} {T M:Bc} (ha:H.get a=some (.abs (.Bl L) false)) (hm:μ a=some T) (hr:H.get r=some (.vec [.tok] (Cp a 0 L.length++Value.pointer (some ⟨z,0,none⟩)::rest) false)) (hzm:μ z=some M):
 ∃T' ts,T'.e=CH ts/\ts[L.length]? = some M/\AJ base W0 (μ.ext H.next T') (((H.del a).alloc (.abs (.Bl (L++[none])) false)).put r (.vec [.tok] (Cp H.next 0 L.length++Value.pointer (some ⟨H.next,Aa,some L.length⟩)::rest) false)) W:=by
 obtain⟨φ,q⟩:=h.abs;obtain⟨⟨us,Fm,hR,hP⟩,hK⟩:=q.rep a _ false T ha hm;have hK:=hK rfl;have hlt:=h.lt ha;have hltr:=h.lt hr;have hra:r≠a:=by rintro rfl;rw[ha]at hr;cases hr
 have hTb:=h.bound a T hm;have hul:us.length=L.length:=hR.len;have hle:μ.le (μ.ext H.next ⟨T.c,0,0,CH (us++[M])⟩):=Ae.Cc _ (h.fresh _ (GO _)).2;refine⟨⟨T.c,0,0,CH (us++[M])⟩,us++[M],rfl,by rw[<-hul];simp,?_⟩;generalize hT':(⟨T.c,0,0,CH (us++[M])⟩:Bc)=T';rw[hT']at hle;have hTc:T'.c=T.c:=by rw[<-hT']
 have hTe:T'.e=CH (us++[M]):=by rw[<-hT']
 generalize hnr:(AP.vec [.tok] (Cp H.next 0 L.length++Value.pointer (some ⟨H.next,Aa,some L.length⟩)::rest) false)=nr;have nrv:∀X:Bc,¬nr.void X:=fun X hv=>by rw[<-hnr]at hv;exact absurd hv.1 (by simp)
 have orv:∀X:Bc,¬(AP.vec [.tok] (Cp a 0 L.length++Value.pointer (some ⟨z,0,none⟩)::rest) false).void X:=fun X hv=>absurd hv.1 (by simp)
 have nrro:nr.ro=false:=by rw[<-hnr];rfl
 have nrab:nr.isAbs=false:=by rw[<-hnr];rfl
 have get:∀x,(((H.del a).alloc (.abs (.Bl (L++[none])) false)).put r nr).get x=if x=r then some nr else if x=H.next then some (.abs (.Bl (L++[none])) false)else if x=a then none else H.get x:=fun x=>by
  rw[AA.AU];split
  ·rfl
  ·rw[AA.AM];show(if x=H.next then _ else _)=_;split
   ·rfl
   ·rw[AA.BU]
 have key:∀b o T2,(((H.del a).alloc (.abs (.Bl (L++[none])) false)).put r nr).get b=some o->(μ.ext H.next T') b=some T2->(b=r/\o=nr/\μ r=some T2)∨(b=H.next/\o= .abs (.Bl (L++[none])) false/\T2=T')∨(b≠r/\b≠H.next/\b≠a/\H.get b=some o/\μ b=some T2):=by
  intro b o T2 hb hT;rw[get]at hb
  by_cases e:b=r
  ·rw[MB e]at hb;cases hb
   subst e;rw[Ae.BI _ _ (by omega)]at hT;exact .inl ⟨rfl,rfl,hT⟩
  ·rw[JT e]at hb
   by_cases e2:b=H.next
   ·rw[MB e2]at hb;cases hb
    subst e2;rw[Ae.Af]at hT;cases hT
    exact .inr (.inl ⟨rfl,rfl,rfl⟩)
   ·rw[JT e2]at hb;rw[Ae.BI _ _ e2]at hT
    by_cases e3:b=a
    ·rw[MB e3]at hb;cases hb
    ·rw[JT e3]at hb;exact .inr (.inr ⟨e,e2,e3,hb,hT⟩)
 have GK:∀b o T2,(b=r/\o=nr/\μ r=some T2)∨(b≠r/\b≠H.next/\b≠a/\H.get b=some o/\μ b=some T2)->∃o0,H.get b=some o0/\μ b=some T2/\b≠a/\b≠H.next/\o0.ro=o.ro/\o0.isAbs=o.isAbs/\(¬o.void T2->¬o0.void T2):=by
  rintro b o T2 (⟨rfl,rfl,h1⟩ | ⟨h1,h2,h3,h4,h5⟩)
  ·exact⟨_,hr,h1,hra,by omega,nrro.symm,nrab.symm,fun _=>orv T2⟩
  ·exact⟨o,h4,h5,h3,h2,rfl,rfl,id⟩
 have getL:∀(j:Nat) (s:Pk),(L++[none])[j]? = some (some s) ↔ L[j]? = some (some s):=by
  intro j s
  by_cases e:j < L.length
  ·rw[jY e]
  ·rw[lB (by omega),T6 (l:=L) (by omega)];constructor
   ·intro h;cases hj:j - L.length with
    | zero=>rw[hj]at h;cases h
    | succ k=>rw[hj]at h;cases h
   ·intro h;cases h
 let φ':Nat->Nat->Prop:=fun b x=>if b=H.next then φ a x else φ b x
 have φz:φ' H.next=φ a:=by funext x;show(if H.next=H.next then _ else _)=_;rw[MB rfl]
 have φo:∀b,b≠H.next->φ' b=φ b:=fun b hb=>by funext x;show(if b=H.next then _ else _)=_;rw[JT hb]
 refine⟨?_,?_,?_,?_,?_,h.size,h.below,h.out,h.os,⟨φ',?_,?_⟩,Ae.le_trans h.le hle,h.grow⟩
 ·intro b o hb T2 hT;rcases key b o T2 hb hT with⟨rfl,rfl,hT⟩ | ⟨rfl,rfl,rfl⟩ | ⟨_,_,_,hb,hT⟩
  ·obtain⟨p,hp,hor⟩:=h.obj _ _ hr T2 hT;refine⟨p,hp,?_⟩;rw[<-hnr];have hne:(Cp a 0 L.length++Value.pointer (some ⟨z,0,none⟩)::rest)≠[]:=by simp
   generalize hll:(Cp a 0 L.length++Value.pointer (some ⟨z,0,none⟩)::rest)=ll at hor hne;cases hor with
   | Du=>exact absurd rfl hne
   | vec _ _ _ _ hc=>
    refine .vec T2 [.tok] _ false _ ?_;rw[D9]at hc ⊢;subst hll;cases hc with
    | cells _ _ _ c t lo hi he hc hr' hf=>
     refine .cells T2 _ _ false c t lo hi he ?_ hr' hf;have e1:(Cp H.next 0 L.length++Value.pointer (some ⟨H.next,Aa,some L.length⟩)::rest).length=(Cp a 0 L.length++Value.pointer (some ⟨z,0,none⟩)::rest).length:=by
      have:∀(b j n:Nat),(Cp b j n).length=n:=by
       intro b j n;induction n generalizing j with
       | zero=>rfl
       | succ n ih=>simp[Cp,ih]
      rw[Pq,Pq,this,this];simp
     rw[e1];generalize (List.drop T2.d c.toList).take _=vals at hc;obtain⟨l1,l2,rfl,c1,c2⟩:=Am.split hc;refine Am.append (SS hm (Ae.Af _ _ _) _ 0 _ (fun i _ hi=>?_) c1) ?_
     ·rw[hTe,hR.code,FG,FG,jY (by omega)]
     ·cases c2 with
      | cons d1 d2=>
       refine .cons ?_ (d2.mono hle);cases d1 with
       | ptr _ _ X hX=>
        rw[hzm]at hX;cases hX
        exact .HY H.next Aa L.length T' M (Ae.Af _ _ _) (by rw[hTe,FG,<-hul];simp) rfl
  ·exact⟨_,dm (by rw[hTc];exact hTb),.abs _ _ _ _⟩
  ·obtain⟨p,hp,hp2⟩:=h.obj b o hb T2 hT;exact⟨p,hp,hp2.mono hle⟩
 ·intro b o hb hro T2 hT hv;rcases key b o T2 hb hT with hk | ⟨rfl,rfl,rfl⟩ | hk
  ·obtain⟨o0,g1,g2,_,_,g5,_,g7⟩:=GK b o T2 (.inl hk);exact h.own b o0 g1 (by rw[g5];exact hro) T2 g2 (g7 hv)
  ·exact absurd trivial hv
  ·obtain⟨o0,g1,g2,_,_,g5,_,g7⟩:=GK b o T2 (.inr hk);exact h.own b o0 g1 (by rw[g5];exact hro) T2 g2 (g7 hv)
 ·intro b1 b2 o1 o2 h1 h2 T1 T2 m1 m2 v1 v2 hc hrr;have fin:∀(k1:(b1=r/\o1=nr/\μ r=some T1)∨(b1≠r/\b1≠H.next/\b1≠a/\H.get b1=some o1/\μ b1=some T1)) (k2:(b2=r/\o2=nr/\μ r=some T2)∨(b2≠r/\b2≠H.next/\b2≠a/\H.get b2=some o2/\μ b2=some T2)),b1=b2:=by
   intro k1 k2;obtain⟨p1,g1,g2,_,_,g5,_,g7⟩:=GK b1 o1 T1 k1;obtain⟨p2,f1,f2,_,_,f5,_,f7⟩:=GK b2 o2 T2 k2;exact h.inj b1 b2 p1 p2 g1 f1 T1 T2 g2 f2 (g7 v1) (f7 v2) hc (by rw[g5,f5];exact hrr)
  rcases key b1 o1 T1 h1 m1 with hk1 | ⟨rfl,rfl,rfl⟩ | hk1<;>rcases key b2 o2 T2 h2 m2 with hk2 | ⟨rfl,rfl,rfl⟩ | hk2
  ·exact fin (.inl hk1) (.inl hk2)
  ·exact absurd trivial v2
  ·exact fin (.inl hk1) (.inr hk2)
  ·exact absurd trivial v1
  ·rfl
  ·exact absurd trivial v1
  ·exact fin (.inr hk1) (.inl hk2)
  ·exact absurd trivial v2
  ·exact fin (.inr hk1) (.inr hk2)
 ·intro b hb;have hb:H.next+1<=b:=hb;refine⟨?_,by rw[Ae.BI _ _ (by omega)];exact(h.fresh b (by omega)).2⟩;rw[get,JT (by omega),JT (by omega),JT (by omega)];exact(h.fresh b (by omega)).1
 ·intro b T2 hT
  by_cases e:b=H.next
  ·subst e;rw[Ae.Af]at hT;cases hT;rw[hTc];exact hTb
  ·rw[Ae.BI _ _ e]at hT;exact h.bound b T2 hT
 ·intro b c ro T2 hb hT;rcases key b _ T2 hb hT with⟨_,e,_⟩ | ⟨rfl,e,rfl⟩ | ⟨_,n2,_,hb,hT⟩
  ·rw[<-e]at nrab;cases nrab
  ·cases e
   rw[φz];refine⟨⟨us++[M],Fm,⟨hTe,by simp[hul],by rw[hTc];exact hTb,fun j s hj=>hR.ext j s ((getL j s).1 hj),fun i j x s t hi hj=>hR.xM i j x s t ((getL i s).1 hi) ((getL j t).1 hj),fun x=>?_⟩,fun j N s hN hj=>?_⟩,fun _=>hK⟩
   ·rw[hR.own x];exact exists_congr fun j=>exists_congr fun s=>and_congr_left fun _=>(getL j s).symm
   ·have hj:=(getL j s).1 hj;have hjl:j < L.length:=(List.getElem?_eq_some_iff.1 hj).1;rw[jY (by omega)]at hN;exact(hP j N s hN hj).mono hle
  ·obtain⟨r1,r2⟩:=q.rep b c ro T2 hb hT;rw[φo b n2];exact⟨r1.mono hle,r2⟩
 ·intro b c ro T2 hb hT b2 o2 T3 hb2 hT2 hne;have DG:∀b0 c0 ro0 T0,H.get b0=some (.abs c0 ro0)->μ b0=some T0->(b2≠b0)->∀(k2:(b2=r/\o2=nr/\μ r=some T3)∨(b2≠r/\b2≠H.next/\b2≠a/\H.get b2=some o2/\μ b2=some T3)),(¬o2.void T3->¬φ b0 T3.c)/\(o2.isAbs=true->∀i,φ b0 i->¬φ' b2 i):=by
   intro b0 c0 ro0 T0 g1 g2 g3 k2;obtain⟨p2,f1,f2,_,f4,_,f6,f7⟩:=GK b2 o2 T3 k2;have:=q.DG b0 c0 ro0 T0 g1 g2 b2 p2 T3 f1 f2 g3;rw[φo b2 f4];exact⟨fun hv=>this.1 (f7 hv),fun hab=>this.2 (by rw[f6];exact hab)⟩
  rcases key b _ T2 hb hT with⟨_,e,_⟩ | ⟨rfl,e,rfl⟩ | ⟨_,n2,n3,hbg,hbm⟩
  ·rw[<-e]at nrab;cases nrab
  ·rw[φz];rcases key b2 o2 T3 hb2 hT2 with hk | ⟨rfl,_,_⟩ | hk
   ·exact DG a _ false T ha hm (by rw[hk.1];exact hra) (.inl hk)
   ·exact absurd rfl hne
   ·exact DG a _ false T ha hm hk.2.2.1 (.inr hk)
  ·rw[φo b n2];rcases key b2 o2 T3 hb2 hT2 with hk | ⟨rfl,rfl,rfl⟩ | hk
   ·exact DG b c ro T2 hbg hbm hne (.inl hk)
   ·rw[φz];exact⟨fun hv=>absurd trivial hv,fun _ i hi hi2=>(q.DG b c ro T2 hbg hbm a _ T ha hm (gi n3)).2 rfl i hi hi2⟩
   ·exact DG b c ro T2 hbg hbm hne (.inr hk)
theorem AJ.ra (h:AJ base W0 μ H W) {a r z:Nat} {rest:List (EK.C [.tok])} {L:List (Option Pk)} {s:Pk} {T M:Bc} (ha:H.get a=some (.abs (.Bl L) false)) (hm:μ a=some T) (hr:H.get r=some (.vec [.tok] (Cp a 0 L.length++Value.pointer (some ⟨z,0,none⟩)::rest) false)) (hz:H.get z=some (.abs (.pack s) false)) (hzm:μ z=some M) (he:C3 s=[]):
 ∃T',AJ base W0 (μ.ext H.next T') (((((H.del a).alloc (.abs (.Bl (L++[none])) false)).put r (.vec [.tok] (Cp H.next 0 L.length++Value.pointer (some ⟨H.next,Aa,some L.length⟩)::rest) false)).del z).put H.next (.abs (.Bl (L++[some s])) false)) W:=by
 obtain⟨T',ts,h1,h2,h3⟩:=h.tO ha hm hr hzm;have hzl:=h.lt hz;have hrl:=h.lt hr;have hal:=h.lt ha;have hzr:z≠r:=by rintro rfl;rw[hr]at hz;cases hz
 have hza:z≠a:=by rintro rfl;rw[ha]at hz;cases hz
 have g1:(((H.del a).alloc (.abs (.Bl (L++[none])) false)).put r (.vec [.tok] (Cp H.next 0 L.length++Value.pointer (some ⟨H.next,Aa,some L.length⟩)::rest) false)).get H.next=some (.abs (.Bl ((L++[none]).set L.length none)) false):=by
  rw[AA.AU,JT (by omega),AA.AM,MB (show H.next=(H.del a).next from rfl)];have:(L++[none]).set L.length none=L++[none]:=by
   rw[AA7 _ _ (GO _),me];rfl
  rw[this]
 have g2:(((H.del a).alloc (.abs (.Bl (L++[none])) false)).put r (.vec [.tok] (Cp H.next 0 L.length++Value.pointer (some ⟨H.next,Aa,some L.length⟩)::rest) false)).get z=some (.abs (.pack s) false):=by
  rw[AA.AU,JT hzr,AA.AM,JT (show z≠(H.del a).next by show z≠H.next;omega),AA.BU,JT hza];exact hz
 have h4:=h3.Zm (a:=H.next) (z:=z) (j:=L.length) (s:=s) (L:=L++[none]) g1 (Ae.Af _ _ _) h1 h2 g2 (by rw[Ae.BI _ _ (by omega)];exact hzm) he (by simp);have:(L++[none]).set L.length (some s)=L++[some s]:=by
  rw[AA7 _ _ (GO _),me];rfl
 rw[this]at h4;exact⟨T',h4⟩
theorem ME (b:Nat):∀(n j:Nat),Cp b j n++[Value.pointer (some ⟨b,Aa,some (j+n)⟩)]=Cp b j (n+1)
 | 0,_=>rfl
 | n+1,j=>by
  show _::(Cp b (j+1) n++_)=_::Cp b (j+1) (n+1);rw[<-ME b n (j+1),show j+1+n=j+(n+1) by omega]
end
section
variable {base:Env} {W0:World} {μ:Ae} {H:AA} {W:World}
theorem AJ.jb (h:AJ base W0 μ H W) {b:Nat} {T:Bc} (hm:μ b=some T):AJ base W0 (μ.ext H.next ⟨T.c,0,0,CH []⟩) (H.alloc (.abs (.Bl []) false)) W:=by
 have hn:=(h.fresh H.next (GO _)).2;have hle:=Ae.Cc ⟨T.c,0,0,CH []⟩ hn;have hlt:=h.bound b T hm;have key:∀i X,(μ.ext H.next ⟨T.c,0,0,CH []⟩) i=some X->(i=H.next/\X=⟨T.c,0,0,CH []⟩)∨(i≠H.next/\μ i=some X):=by
  intro i X e
  by_cases hi:i=H.next
  ·subst hi;rw[Ae.Af]at e;cases e;exact .inl ⟨rfl,rfl⟩
  ·rw[Ae.BI _ _ hi]at e;exact .inr ⟨hi,e⟩
 have key2:∀b' p,(H.alloc (.abs (.Bl []) false)).get b'=some p->(b'=H.next/\p= .abs (.Bl []) false)∨(b'≠H.next/\H.get b'=some p):=by
  intro b' p hb';rw[AA.AM]at hb'
  by_cases e:b'=H.next
  ·rw[MB e]at hb';cases hb';exact .inl ⟨e,rfl⟩
  ·rw[JT e]at hb';exact .inr ⟨e,hb'⟩
 have both:∀{b' p X},(H.alloc (.abs (.Bl []) false)).get b'=some p->(μ.ext H.next ⟨T.c,0,0,CH []⟩) b'=some X->(b'=H.next/\p= .abs (.Bl []) false/\X=⟨T.c,0,0,CH []⟩)∨(b'≠H.next/\H.get b'=some p/\μ b'=some X):=by
  intro b' p X h1 h2;rcases key2 b' p h1 with⟨e,rfl⟩ | ⟨e,g⟩
  ·subst e;rw[Ae.Af]at h2;cases h2;exact .inl ⟨rfl,rfl,rfl⟩
  ·rw[Ae.BI _ _ e]at h2;exact .inr ⟨e,g,h2⟩
 obtain⟨φ,q⟩:=h.abs;let φ':Nat->Nat->Prop:=fun b x=>if b=H.next then False else φ b x
 have φz:∀x,¬φ' H.next x:=fun x hx=>by
  have hx:(if H.next=H.next then False else φ H.next x):=hx;rw[MB rfl]at hx;exact hx
 have φo:∀b,b≠H.next->φ' b=φ b:=fun b hb=>by funext x;show(if b=H.next then _ else _)=_;rw[JT hb]
 refine⟨?_,?_,?_,?_,?_,h.size,h.below,h.out,h.os,⟨φ',?_,?_⟩,Ae.le_trans h.le hle,h.grow⟩
 ·intro b' p hb X hm';rcases both hb hm' with⟨rfl,rfl,rfl⟩ | ⟨hne,hb',hm'⟩
  ·exact⟨_,dm hlt,.abs _ _ _ _⟩
  ·obtain⟨o2,h2,h3⟩:=h.obj b' p hb' X hm';exact⟨o2,h2,h3.mono hle⟩
 ·intro b' p hb hr X hm' hv;rcases both hb hm' with⟨_,rfl,_⟩ | ⟨_,g1,g2⟩
  ·exact absurd trivial hv
  ·exact h.own b' p g1 hr X g2 hv
 ·intro b1 b2 p1 p2 h1 h2 T1 T2 m1 m2 v1 v2 hcc hrr;rcases both h1 m1 with⟨_,rfl,_⟩ | ⟨_,g1,g2⟩
  ·exact absurd trivial v1
  ·rcases both h2 m2 with⟨_,rfl,_⟩ | ⟨_,g3,g4⟩
   ·exact absurd trivial v2
   ·exact h.inj b1 b2 p1 p2 g1 g3 T1 T2 g2 g4 v1 v2 hcc hrr
 ·intro b' hb;have hb':H.next+1<=b':=hb;refine⟨?_,?_⟩
  ·rw[AA.AM,JT (by omega)];exact(h.fresh b' (by omega)).1
  ·rw[Ae.BI _ _ (by omega)];exact(h.fresh b' (by omega)).2
 ·intro b' X hm';rcases key b' X hm' with⟨rfl,rfl⟩ | ⟨_,hm2⟩
  ·exact hlt
  ·exact h.bound b' X hm2
 ·intro b' a r T' hb' hm';rcases both hb' hm' with⟨rfl,e,rfl⟩ | ⟨hne,g1,g2⟩
  ·cases e
   refine⟨⟨[],fun _ _=>False,⟨rfl,rfl,hlt,fun j s hj=>(by cases hj),fun i j x s t hi=>(by cases hi),fun x=>⟨fun hx=>absurd hx (φz x),fun⟨_,_,hj,_⟩=>(by cases hj)⟩⟩,fun j M s hM=>(by cases hM)⟩,fun _ i hi=>absurd hi (φz i)⟩
  ·obtain⟨r1,r2⟩:=q.rep b' a r T' g1 g2;rw[φo b' hne];exact⟨r1.mono hle,r2⟩
 ·intro b' a r T' hb' hm' b2 o2 T2 hb2 hm2 hne2;rcases both hb' hm' with⟨rfl,e,rfl⟩ | ⟨hne,g1,g2⟩
  ·exact⟨fun _=>φz _,fun _ i hi=>absurd hi (φz i)⟩
  ·rw[φo b' hne];rcases both hb2 hm2 with⟨rfl,rfl,rfl⟩ | ⟨hne3,g3,g4⟩
   ·exact⟨fun hv=>absurd trivial hv,fun _ i _=>φz i⟩
   ·have:=q.DG b' a r T' g1 g2 b2 o2 T2 g3 g4 hne2;rw[φo b2 hne3];exact this
def Ep (r:Nat):List (Nat × Pk)->Nat->List (Option Pk)->AA->Nat × AA
 | [],a,_,H=>(a,H)
 | (z,s)::zs,a,L,H=>Ep r zs H.next (L++[some s]) (((((H.del a).alloc (.abs (.Bl (L++[none])) false)).put r (.vec [.tok] (Cp H.next 0 L.length++Value.pointer (some ⟨H.next,Aa,some L.length⟩)::zs.map fun p=>Value.pointer (some ⟨p.1,0,none⟩)) false)).del z).put H.next (.abs (.Bl (L++[some s])) false))
theorem E8 (H:AA) (a r z:Nat) (o1 o2 o3:AP) (x:Nat):(((((H.del a).alloc o1).put r o2).del z).put H.next o3).get x=if x=H.next then some o3 else if x=z then none else if x=r then some o2 else if x=a then none else H.get x:=by
 rw[AA.AU];split
 ·rfl
 ·rename_i h1;rw[AA.BU];split
  ·rfl
  ·rw[AA.AU];split
   ·rfl
   ·rw[AA.AM,JT (show x≠(H.del a).next from h1),AA.BU]
theorem AJ.aC {r:Nat}:∀(zs:List (Nat × Pk)) (a:Nat) (L:List (Option Pk)) (H:AA) (μ:Ae),AJ base W0 μ H W->H.get a=some (.abs (.Bl L) false)->(∃T,μ a=some T)->H.get r=some (.vec [.tok] (Cp a 0 L.length++zs.map fun p=>Value.pointer (some ⟨p.1,0,none⟩)) false)->
 (∀p∈zs,H.get p.1=some (.abs (.pack p.2) false)/\C3 p.2=[]/\∃M,μ p.1=some M)->(zs.map Prod.fst).Nodup->∃μ2,μ.le μ2/\AJ base W0 μ2 (Ep r zs a L H).2 W
 | [],a,L,H,μ,h,_,_,_,_,_=>⟨μ,Ae.le_refl _,h⟩
 | (z,s)::zs,a,L,H,μ,h,ha,⟨T,hT⟩,hr,hz,hnd=>by
  obtain⟨g1,g2,M,g3⟩:=hz (z,s) (nB ..);obtain⟨T',h2⟩:=h.ra (z:=z) (s:=s) (rest:=zs.map fun p=>Value.pointer (some ⟨p.1,0,none⟩)) ha hT hr g1 g3 g2;have hrl:=h.lt hr;have hzl:=h.lt g1;have hzr:r≠z:=by rintro rfl;rw[g1]at hr;cases hr
  rw[Sm,lW]at hnd;have e1:(((((H.del a).alloc (.abs (.Bl (L++[none])) false)).put r (.vec [.tok] (Cp H.next 0 L.length++Value.pointer (some ⟨H.next,Aa,some L.length⟩)::zs.map fun p=>Value.pointer (some ⟨p.1,0,none⟩)) false)).del z).put H.next (.abs (.Bl (L++[some s])) false)).get r=some (.vec [.tok] (Cp H.next 0 (L++[some s]).length++zs.map fun p=>Value.pointer (some ⟨p.1,0,none⟩)) false):=by
   rw[E8,JT (by omega),JT hzr,MB rfl,Pq,show [some s].length=1 from rfl,<-ME,RP,aU,AAr]
  have e2:∀p∈zs,(((((H.del a).alloc (.abs (.Bl (L++[none])) false)).put r (.vec [.tok] (Cp H.next 0 L.length++Value.pointer (some ⟨H.next,Aa,some L.length⟩)::zs.map fun p=>Value.pointer (some ⟨p.1,0,none⟩)) false)).del z).put H.next (.abs (.Bl (L++[some s])) false)).get p.1=some (.abs (.pack p.2) false)/\C3 p.2=[]/\∃M,(μ.ext H.next T') p.1=some M:=by
   intro p hp;obtain⟨f1,f2,N,f3⟩:=hz p (oo _ hp);have hpl:=h.lt f1;refine⟨?_,f2,N,by rw[Ae.BI _ _ (by omega)];exact f3⟩;rw[E8,JT (by omega),JT (fun e=>hnd.1 (by show z∈_;rw[<-e];exact List.mem_map.2 ⟨p,hp,rfl⟩)),JT (by intro e;rw[e,hr]at f1;cases f1),JT (by intro e;rw[e,ha]at f1;cases f1),f1]
  obtain⟨μ3,k1,k2⟩:=AJ.aC (r:=r) zs H.next (L++[some s]) _ _ h2 (by rw[E8,MB rfl]) ⟨T',Ae.Af _ _ _⟩ e1 e2 hnd.2;exact⟨μ3,Ae.le_trans (Ae.Cc _ (h.fresh _ (GO _)).2) k1,k2⟩
theorem QN {r:Nat}:∀(zs:List (Nat × Pk)) (a:Nat) (L:List (Option Pk)) (H:AA),(∀x o,H.get x=some o->x < H.next)->H.get a=some (.abs (.Bl L) false)->H.get r=some (.vec [.tok] (Cp a 0 L.length++zs.map fun p=>Value.pointer (some ⟨p.1,0,none⟩)) false)->
 (∀p∈zs,H.get p.1=some (.abs (.pack p.2) false))->(zs.map Prod.fst).Nodup->(Ep r zs a L H).2.get r=some (.vec [.tok] (Cp (Ep r zs a L H).1 0 (L.length+zs.length)) false)/\(Ep r zs a L H).2.get (Ep r zs a L H).1=some (.abs (.Bl (L++zs.map fun p=>some p.2)) false)/\
  (∀x,x≠r->x≠a->x∉zs.map Prod.fst->x < H.next->(Ep r zs a L H).2.get x=H.get x)/\((Ep r zs a L H).1=a∨H.next<=(Ep r zs a L H).1)
 | [],a,L,H,hlt,ha,hr,_,_=>⟨by rw[o6,vf]at hr;exact hr,by rw[o6,vf];exact ha,fun _ _ _ _ _=>rfl,.inl rfl⟩
 | (z,s)::zs,a,L,H,hlt,ha,hr,hz,hnd=>by
  have g1:=hz (z,s) (nB ..);have hrl:=hlt _ _ hr;have hal:=hlt _ _ ha;have hzl:=hlt _ _ g1;have hzr:r≠z:=by rintro rfl;rw[g1]at hr;cases hr
  rw[Sm,lW]at hnd;have e0:∀x o,(((((H.del a).alloc (.abs (.Bl (L++[none])) false)).put r (.vec [.tok] (Cp H.next 0 L.length++Value.pointer (some ⟨H.next,Aa,some L.length⟩)::zs.map fun p=>Value.pointer (some ⟨p.1,0,none⟩)) false)).del z).put H.next (.abs (.Bl (L++[some s])) false)).get x=some o->x < (((((H.del a).alloc (.abs (.Bl (L++[none])) false)).put r (.vec [.tok] (Cp H.next 0 L.length++Value.pointer (some ⟨H.next,Aa,some L.length⟩)::zs.map fun p=>Value.pointer (some ⟨p.1,0,none⟩)) false)).del z).put H.next (.abs (.Bl (L++[some s])) false)).next:=by
   intro x o hx;rw[E8]at hx;show x < H.next+1
   by_cases e:x=H.next
   ·omega
   ·rw[JT e]at hx
    by_cases e2:x=z
    ·rw[MB e2]at hx;cases hx
    ·rw[JT e2]at hx
     by_cases e3:x=r
     ·omega
     ·rw[JT e3]at hx
      by_cases e4:x=a
      ·rw[MB e4]at hx;cases hx
      ·rw[JT e4]at hx;have:=hlt _ _ hx;omega
  have e1:(((((H.del a).alloc (.abs (.Bl (L++[none])) false)).put r (.vec [.tok] (Cp H.next 0 L.length++Value.pointer (some ⟨H.next,Aa,some L.length⟩)::zs.map fun p=>Value.pointer (some ⟨p.1,0,none⟩)) false)).del z).put H.next (.abs (.Bl (L++[some s])) false)).get r=some (.vec [.tok] (Cp H.next 0 (L++[some s]).length++zs.map fun p=>Value.pointer (some ⟨p.1,0,none⟩)) false):=by
   rw[E8,JT (by omega),JT hzr,MB rfl,Pq,show [some s].length=1 from rfl,<-ME,RP,aU,AAr]
  have e2:∀p∈zs,(((((H.del a).alloc (.abs (.Bl (L++[none])) false)).put r (.vec [.tok] (Cp H.next 0 L.length++Value.pointer (some ⟨H.next,Aa,some L.length⟩)::zs.map fun p=>Value.pointer (some ⟨p.1,0,none⟩)) false)).del z).put H.next (.abs (.Bl (L++[some s])) false)).get p.1=some (.abs (.pack p.2) false):=by
   intro p hp;have f1:=hz p (oo _ hp);have hpl:=hlt _ _ f1;rw[E8,JT (by omega),JT (fun e=>hnd.1 (by show z∈_;rw[<-e];exact List.mem_map.2 ⟨p,hp,rfl⟩)),JT (by intro e;rw[e,hr]at f1;cases f1),JT (by intro e;rw[e,ha]at f1;cases f1),f1]
  obtain⟨k1,k2,k3,k4⟩:=QN (r:=r) zs H.next (L++[some s]) (((((H.del a).alloc (.abs (.Bl (L++[none])) false)).put r (.vec [.tok] (Cp H.next 0 L.length++Value.pointer (some ⟨H.next,Aa,some L.length⟩)::zs.map fun p=>Value.pointer (some ⟨p.1,0,none⟩)) false)).del z).put H.next (.abs (.Bl (L++[some s])) false)) e0 (by rw[E8,MB rfl]) e1 e2 hnd.2;refine⟨?_,?_,fun x h1 h2 h3 h4=>?_,.inr ?_⟩
  ·rw[Pq,show [some s].length=1 from rfl]at k1;rw[bT,show L.length+(zs.length+1)=L.length+1+zs.length by omega];exact k1
  ·rw[aU]at k2;exact k2
  ·rw[Sm,Ul,AAq]at h3;show(Ep r zs _ _ _).2.get x=_;rw[k3 x h1 (by omega) h3.2 (show x < H.next+1 by omega),E8,JT (by omega),JT h3.1,JT h1,JT h2]
  ·rcases k4 with k4 | k4
   ·show H.next<=(Ep r zs _ _ _).1;rw[k4];exact GO _
   ·exact wQ (ABn _) k4
inductive Rw (r:Nat):Value->Value->Prop where
 | same (v:Value):Rw r v v
 | row (n cap m:Nat) (hc:cap=Aa+m):Rw r (.slice (some ⟨r,0,none⟩) n cap) (.slice (some ⟨r,0,some 0⟩) n Aa)
inductive eY (r:Nat):AL->AL->Prop where
 | nil:eY r [] []
 | cons {v w:Value} {l m:AL} (h:Rw r v w) (t:eY r l m):eY r (v::l) (w::m)
inductive uy (r:Nat):Value->Value->Prop where
 | val {v w:Value} (h:Rw r v w):uy r v w
 | tuple {l m:AL} (h:eY r l m):uy r (.tuple ⟨l⟩) (.tuple ⟨m⟩)
theorem Rw.QS {μ:Ae} {r:Nat} (hz:∀T,μ r=some T->T.r≠0) {v w v':Value} (h:Rw r v w) (hv:AH μ v v'):AH μ w v':=by
 cases h with
 | same=>exact hv
 | row n cap m hc=>
  subst hc;cases hv with
  | slice _ _ _ _ cap' o' T hm hc ho=>exact .Bk r 0 n Aa cap' o' T hm (by rw[ABp];exact Ol hc) (by rw[ABp];exact ho) (hz T hm)
theorem eY.hJ {μ:Ae} {r:Nat} (hz:∀T,μ r=some T->T.r≠0) {l m:AL} (h:eY r l m):∀{l':AL},Am μ l l'->Am μ m l':=by
 induction h with
 | nil=>intro l' h;cases h;exact .nil
 | cons h _ ih=>intro l' hl;cases hl with | cons h1 h2=>exact .cons (h.QS hz h1) (ih h2)
theorem eY.length {r:Nat} {l m:AL} (h:eY r l m):l.length=m.length:=by
 induction h with
 | nil=>rfl
 | cons _ _ ih=>simp[ih]
theorem eY.refl (r:Nat):∀l:AL,eY r l l
 | []=> .nil
 | v::l=> .cons (.same v) (eY.refl r l)
theorem uy.QS {μ:Ae} {r:Nat} (hz:∀T,μ r=some T->T.r≠0) {v w v':Value} (h:uy r v w) (hv:AH μ v v'):AH μ w v':=by
 cases h with
 | val h=>exact h.QS hz hv
 | tuple h=>
  obtain⟨xs',rfl,hl⟩:=AH.CE.1 hv;exact AH.CE.2 ⟨xs',rfl,h.hJ hz hl⟩
theorem AJ.X1 (h:AJ base W0 μ H W) {r:Nat} {k:EK} {l:List (EK.C k)} {ro:Bool} (hr:H.get r=some (.vec k l ro)) (hl:l≠[]) (hk:k.length≠0):∀T,μ r=some T->T.r≠0:=by
 intro T hT;obtain⟨o',h1,h2⟩:=h.obj r _ hr T hT;cases h2 with
 | Du=>exact absurd rfl hl
 | vec _ _ _ _ hc=>
  cases hc with
  | cells _ _ _ c t lo hi he hc hr' hf=>
   have:=hc.length
   change (Ag k l).length=((c.toList.drop T.d).take _).length at this
   rw[Rg,Tx,BH]at this;have hcs:c.toList.length=c.size:=rfl;have h3:0 < l.length:=List.length_pos_iff.2 hl;have h4:0 < l.length * k.length:=ABL h3 (by omega);omega
end
theorem AJ.SW {base:Env} {W0 W:World} {μ:Ae} {H:AA} (h:AJ base W0 μ H W) {b:Nat} {k:EK} {l:List (EK.C k)} {ro:Bool} (n:Nat) (hb:H.get b=some (.vec k l ro)):AJ base W0 μ (H.put b (.vec k (l.take n) ro)) W:=by
 refine h.swap hb (fun T o' _ ho=>?_) rfl rfl rfl (fun T _ hv=>⟨by rw[hv.1];exact ABQ,hv.2.1,hv.2.2⟩);cases ho with
 | vec _ _ _ _ hc=>
  cases hc with
  | cells _ _ _ c t lo hi he hc hr hf=>
   refine .vec T k _ ro _ (.cells T _ _ ro c t lo hi he ?_ hr hf);have h1:=hc.take (n * k.length);rw[D8]at h1;rw[tV]at h1;have e:(Ag k (l.take n)).length=min (n * k.length) (Ag k l).length:=by rw[<-D8,Rg]
   rw[e];exact h1
 | Du _ _ _ he hr hk=>rw[ABQ];exact .Du T k ro _ he hr hk
inductive Told (D:Nat->Prop) (Φ:Ih):Ih where
 | here {v:Value} {H:AA} (h:Φ v H):Told D Φ v H
 | lA {v:Value} {H:AA} (k:EK) (hk:k.length≠0) (a:Nat) (ha:a∈Au 4 v∨D a) (v2:Value) (hv:pY H.next v v2) (t:(∀x o,H.get x=some o->x < H.next)->Told D Φ v2 (H.alloc (.vec k [] false))):Told D Φ v H
 | U0 {v:Value} {H:AA} (k:EK) (hk:k.length≠0) (a:Nat) (ha:a∈Au 4 v∨D a) (v2:Value) (hv:pY H.next v v2) (b:Nat) (cs cs1:AL) (e:Nat) (ro:Bool) (hb:H.get b=some (.cells cs e ro)) (hc:Vd H.next cs cs1)
  (t:(∀x o,H.get x=some o->x < H.next)->Told D Φ v2 ((H.alloc (.vec k [] false)).put b (.cells cs1 e ro))):Told D Φ v H
 | SW {v:Value} {H:AA} (b:Nat) (k:EK) (l:List (EK.C k)) (ro:Bool) (n:Nat) (hb:H.get b=some (.vec k l ro)) (t:Told D Φ v (H.put b (.vec k (l.take n) ro))):Told D Φ v H
 | JF {v:Value} {H:AA} (b:Nat) (k:EK) (l:List (EK.C k)) (ro:Bool) (hb:H.get b=some (.cells (Ag k l) k.length ro)) (t:Told D Φ v (H.put b (.vec k l ro))):Told D Φ v H
 | shut {v:Value} {H:AA} (s:Pk) (objs:BN) (bs rs:AW) (hr:Bx s objs) (hne:objs≠[]) (hlen:bs.length=objs.length) (hnd:bs.Nodup) (hrs:∀b∈rs,b∈Au 4 v∨D b) (hreach:∀b∈bs,JW H rs b)
  (hobj:∀(i b:Nat) (o:AP),bs[i]? = some b->objs[i]? = some o->∃o1,H.get b=some o1/\o1.ro=false/\o1.Kg=true/\BV (RQ bs (C3 s)) o=some o1) (hroot:∀o T,objs[0]? = some o->¬o.void T) (t:Told D Φ v (Le s bs H)):Told D Φ v H
 | members {v:Value} {H:AA} (r:Nat) (zs:List (Nat × Pk)) (rs:AW) (hr:H.get r=some (.vec [.tok] (zs.map fun p=>Value.pointer (some ⟨p.1,0,none⟩)) false)) (hz:∀p∈zs,H.get p.1=some (.abs (.pack p.2) false)/\C3 p.2=[]) (hnd:(zs.map Prod.fst).Nodup) (hne:zs≠[]) (hrs:∀b∈rs,b∈Au 4 v∨D b) (hreach:∀p∈zs,JW H rs p.1)
  (t:(∀x o,H.get x=some o->x < H.next)->Told D Φ v (Ep r zs H.next [] (H.alloc (.abs (.Bl []) false))).2):Told D Φ v H
 | wy {v:Value} {H:AA} (r:Nat) (k:EK) (l:List (EK.C k)) (ro:Bool) (hr:H.get r=some (.vec k l ro)) (hl:l≠[]) (hk:k.length≠0) (v2:Value) (hv:uy r v v2) (b:Nat) (cs cs1:AL) (e:Nat) (ro2:Bool) (hb:H.get b=some (.cells cs e ro2)) (hc:eY r cs cs1) (t:Told D Φ v2 (H.put b (.cells cs1 e ro2))):Told D Φ v H
 | vk {v:Value} {H:AA} (r:Nat) (k:EK) (l:List (EK.C k)) (ro:Bool) (hr:H.get r=some (.vec k l ro)) (hl:l≠[]) (hk:k.length≠0) (v2:Value) (hv:uy r v v2) (t:Told D Φ v2 H):Told D Φ v H
theorem Told.ok {base:Env} {W0:World} {D:Nat->Prop} {Φ:Ih} (hD:∀b,D b->∃T,base.jK b=some T) {v:Value} {H:AA} (h:Told D Φ v H):(∃μ W v',AH μ v v'/\AJ base W0 μ H W)->
 ∃v2 H2,Φ v2 H2/\∀μ1 W1 v',AH μ1 v v'->AJ base W0 μ1 H W1->∃μ2,μ1.le μ2/\AJ base W0 μ2 H2 W1/\AH μ2 v2 v':=by
 have Zc:∀{v:Value} {H:AA} {a:Nat} {μ:Ae} {W:World} {v':Value},(a∈Au 4 v∨D a)->AH μ v v'->AJ base W0 μ H W->∃T,μ a=some T:=by
  intro v H a μ W v' ha hv hH;rcases ha with ha | ha
  ·exact FJ (Am.cons hv .nil) a (by simpa using ha)
  ·obtain⟨T,hT⟩:=hD a ha;exact⟨T,hH.le a T hT⟩
 have stepV:∀{v v2:Value} {H:AA} {k:EK} {a:Nat},k.length≠0->(a∈Au 4 v∨D a)->pY H.next v v2->∀μ1 W1 v',AH μ1 v v'->AJ base W0 μ1 H W1->∃μ2,μ1.le μ2/\(∃T,μ2 H.next=some T)/\AJ base W0 μ2 (H.alloc (.vec k [] false)) W1/\AH μ2 v2 v':=by
  intro v v2 H k a hk ha hz μ1 W1 v' hv hH;obtain⟨T,hT⟩:=Zc ha hv hH;obtain⟨r1,r2⟩:=hH.FN hT hk false;exact⟨_,r2.le,⟨_,Ae.Af _ _ _⟩,r1,hz.QS r2.le (Ae.Af _ _ _) hv⟩
 have stepC:∀{v v2:Value} {H:AA} {k:EK} {a b e:Nat} {cs cs1:AL} {ro:Bool},k.length≠0->(a∈Au 4 v∨D a)->pY H.next v v2->H.get b=some (.cells cs e ro)->Vd H.next cs cs1->∀μ1 W1 v',AH μ1 v v'->AJ base W0 μ1 H W1->
  ∃μ2,μ1.le μ2/\AJ base W0 μ2 ((H.alloc (.vec k [] false)).put b (.cells cs1 e ro)) W1/\AH μ2 v2 v':=by
  intro v v2 H k a b e cs cs1 ro hk ha hz hb hc μ1 W1 v' hv hH;obtain⟨μ2,g1,⟨T,hT⟩,g2,g3⟩:=stepV (k:=k) hk ha hz μ1 W1 v' hv hH;refine⟨μ2,g1,?_,g3⟩;have hb1:(H.alloc (.vec k [] false)).get b=some (.cells cs e ro):=by rw[AA.AM,JT (by have:=hH.lt hb;omega)];exact hb
  refine g2.swap hb1 (fun T2 o2 _ ho=>?_) rfl rfl rfl (fun _ _ hv=>hv);cases ho with
  | cells _ _ _ c3 t lo hi he hc2 hr hf=>
   refine .cells T2 _ e ro c3 t lo hi he ?_ hr hf;rw[<-hc.length];exact hc.hJ (Ae.le_refl _) hT hc2
 induction h with
 | here h=>exact fun _=>⟨_,_,h,fun μ1 W1 v' hv hH=>⟨μ1,Ae.le_refl _,hH,hv⟩⟩
 | lA k hk a ha v2 hz t ih=>
  rintro⟨μ,W,v',hv,hH⟩;obtain⟨μ2,g1,_,g2,g3⟩:=stepV (k:=k) hk ha hz μ W v' hv hH;obtain⟨v3,H3,h3,k3⟩:=ih (fun x o hx=>hH.lt hx) ⟨μ2,W,v',g3,g2⟩;refine⟨v3,H3,h3,fun μ1 W1 w' hw hH1=>?_⟩;obtain⟨μ5,f1,_,f2,f3⟩:=stepV (k:=k) hk ha hz μ1 W1 w' hw hH1;obtain⟨μ6,e1,e2,e3⟩:=k3 μ5 W1 w' f3 f2;exact⟨μ6,Ae.le_trans f1 e1,e2,e3⟩
 | U0 k hk a ha v2 hz b cs cs1 e ro hb hc t ih=>
  rintro⟨μ,W,v',hv,hH⟩;obtain⟨μ2,g1,g2,g3⟩:=stepC (k:=k) hk ha hz hb hc μ W v' hv hH;obtain⟨v3,H3,h3,k3⟩:=ih (fun x o hx=>hH.lt hx) ⟨μ2,W,v',g3,g2⟩;refine⟨v3,H3,h3,fun μ1 W1 w' hw hH1=>?_⟩;obtain⟨μ5,f1,f2,f3⟩:=stepC (k:=k) hk ha hz hb hc μ1 W1 w' hw hH1;obtain⟨μ6,e1,e2,e3⟩:=k3 μ5 W1 w' f3 f2;exact⟨μ6,Ae.le_trans f1 e1,e2,e3⟩
 | SW b k l ro n hb t ih=>
  rintro⟨μ,W,v',hv,hH⟩;obtain⟨v3,H3,h3,k3⟩:=ih ⟨μ,W,v',hv,hH.SW n hb⟩;exact⟨v3,H3,h3,fun μ1 W1 w' hw hH1=>k3 μ1 W1 w' hw (hH1.SW n hb)⟩
 | JF b k l ro hb t ih=>
  rintro⟨μ,W,v',hv,hH⟩;obtain⟨v3,H3,h3,k3⟩:=ih ⟨μ,W,v',hv,hH.JF hb⟩;exact⟨v3,H3,h3,fun μ1 W1 w' hw hH1=>k3 μ1 W1 w' hw (hH1.JF hb)⟩
 | shut s objs bs rs hr hne hlen hnd hrs hreach hobj hroot t ih=>
  have st:∀μ W v',AH μ _ v'->AJ base W0 μ _ W->AJ base W0 μ (Le s bs _) W:=fun μ W v' hv hH=>
   (hH.shut hr hnd hlen hne (fun b hb=>JW.bN hH (fun c hc=>Zc (hrs c hc) hv hH) (hreach b hb)) hobj (E2 hnd) hroot).1
  rintro⟨μ,W,v',hv,hH⟩;obtain⟨v3,H3,h3,k3⟩:=ih ⟨μ,W,v',hv,st μ W v' hv hH⟩;exact⟨v3,H3,h3,fun μ1 W1 w' hw hH1=>k3 μ1 W1 w' hw (st μ1 W1 w' hw hH1)⟩
 | @members v H r zs rs hr hz hnd hne hrs hreach t ih=>
  have st:∀μ W v',AH μ v v'->AJ base W0 μ H W->∃μ2,μ.le μ2/\AJ base W0 μ2 (Ep r zs H.next [] (H.alloc (.abs (.Bl []) false))).2 W:=fun μ W v' hv hH=>by
   have hd:∀p∈zs,∃T,μ p.1=some T:=fun p hp=>JW.bN hH (fun c hc=>Zc (hrs c hc) hv hH) (hreach p hp)
   obtain⟨p0,hp0⟩:=List.exists_mem_of_ne_nil _ hne;obtain⟨T,hT⟩:=hd p0 hp0;have h2:=hH.jb hT;have hle:=Ae.Cc ⟨T.c,0,0,CH []⟩ (hH.fresh H.next (GO _)).2;obtain⟨μ2,k1,k2⟩:=AJ.aC (r:=r) zs H.next [] _ _ h2 (by rw[AA.AM,MB rfl]) ⟨_,Ae.Af _ _ _⟩ (by rw[AA.AM,JT (ABq (hH.lt hr))];exact hr) (fun p hp=>by
    obtain⟨f1,f2⟩:=hz p hp;obtain⟨M,hM⟩:=hd p hp;exact⟨by rw[AA.AM,JT (ABq (hH.lt f1))];exact f1,f2,M,hle _ _ hM⟩) hnd
   exact⟨μ2,Ae.le_trans hle k1,k2⟩
  rintro⟨μ,W,v',hv,hH⟩;obtain⟨μ2,g1,g2⟩:=st μ W v' hv hH;obtain⟨v3,H3,h3,k3⟩:=ih (fun x o hx=>hH.lt hx) ⟨μ2,W,v',hv.mono g1,g2⟩;refine⟨v3,H3,h3,fun μ1 W1 w' hw hH1=>?_⟩;obtain⟨μ5,f1,f2⟩:=st μ1 W1 w' hw hH1;obtain⟨μ6,e1,e2,e3⟩:=k3 μ5 W1 w' (hw.mono f1) f2;exact⟨μ6,Ae.le_trans f1 e1,e2,e3⟩
 | @wy v H r k l ro hr hl hk v2 hv2 b cs cs1 e ro2 hb hc t ih=>
  have st:∀μ W v',AH μ v v'->AJ base W0 μ H W->AJ base W0 μ (H.put b (.cells cs1 e ro2)) W/\AH μ v2 v':=fun μ W v' hv hH=>by
   have hn:=hH.X1 hr hl hk;refine⟨hH.swap hb (fun T2 o2 _ ho=>?_) rfl rfl rfl (fun _ _ hv=>hv),hv2.QS hn hv⟩;cases ho with
   | cells _ _ _ c3 t lo hi he hc2 hr hf=>
    refine .cells T2 _ e ro2 c3 t lo hi he ?_ hr hf;rw[<-hc.length];exact hc.hJ hn hc2
  rintro⟨μ,W,v',hv,hH⟩;obtain⟨g1,g2⟩:=st μ W v' hv hH;obtain⟨v3,H3,h3,k3⟩:=ih ⟨μ,W,v',g2,g1⟩;exact⟨v3,H3,h3,fun μ1 W1 w' hw hH1=>k3 μ1 W1 w' (st μ1 W1 w' hw hH1).2 (st μ1 W1 w' hw hH1).1⟩
 | @vk v H r k l ro hr hl hk v2 hv2 t ih=>
  rintro⟨μ,W,v',hv,hH⟩;obtain⟨v3,H3,h3,k3⟩:=ih ⟨μ,W,v',hv2.QS (hH.X1 hr hl hk) hv,hH⟩;exact⟨v3,H3,h3,fun μ1 W1 w' hw hH1=>k3 μ1 W1 w' (hv2.QS (hH1.X1 hr hl hk) hw) hH1⟩
theorem Ak.OE {X:Ctx} {N:Nat} {D:Nat->Prop} {f:FuncId} {Φ:Ih} {c:BT} (h:Ak X N D f (Told D Φ) c):Ak X N D f Φ c:=by
 intro base W0 hb0 hDm hok hplan cs0 μ fr cs W hm;obtain⟨c',v,H,v1,H1,h1,h3,μ1,fr1,cs1,W1,s1,m1,h2⟩:=h base W0 hb0 hDm hok hplan cs0 μ fr cs W hm;obtain⟨v2,H2,k1,k2⟩:=h3.ok hDm (by
  obtain⟨_,_,v',e1,e2,e3⟩:=KR m1 h1;obtain⟨μ4,g0,g1,g2⟩:=h2 v' e3 e2;exact⟨μ4,W1,v',g2,g1⟩)
 refine⟨c',v,H,v2,H2,h1,k1,μ1,fr1,cs1,W1,s1,m1,fun v' hv hH=>?_⟩;obtain⟨μ2,g0,g1,g2⟩:=h2 v' hv hH;obtain⟨μ3,f0,f1,f2⟩:=k2 μ2 W1 v' g2 g1;exact⟨μ3,Ae.le_trans g0 f0,f1,f2⟩
def oK (sz bytes b off len i n:Nat) (new:AL) (H:AA):Option (Value × AA):=
 match H.get b with
 | some (.cells cs e false)=>
  let GK:=(cs.drop off).take (len * sz)
  bif Nat.beq GK.length (len * sz)&&Nat.beq e sz&&GK.all Bh&&new.all Bh&&Nat.ble ((2 * (len+n)+192) * bytes) 281474976710656&&Nat.ble (len+n) 4611686018427387904 then
   some (.slice (some ⟨H.next,0,none⟩) (len+n) (Aa+(len+n)),(H.del b).alloc (.cells (GK.take (i * sz)++(new++GK.drop (i * sz))) sz false))
  else none
 | _=>none
def Qj (o:Option AP):Bool:=
 match o with
 | some (.cells _ e false)=> !(Nat.beq e 1)
 | _=>false
def Fl (sz bytes:Nat):DO:=fun args H=>
 match args with
 | [.slice (some ⟨b,off,none⟩) len cap,.int .i64 (.ofNat i),.slice (some ⟨vb,voff,none⟩) m vcap]=>
  bif Nat.ble Aa cap&&Nat.blt i len&& !(Nat.beq vb b)&& !(Nat.beq m 0)&&Qj (H.get vb)then
   match EM sz (.slice (some ⟨vb,voff,none⟩) m vcap) H with
   | some (n,new)=>oK sz bytes b off len i n new H
   | none=>none
  else none
 | _=>none
theorem Hi (c:Nat) (t:TypeId) (fz:Nat × Nat):∀(l:AL) (o:Nat) (a:BR) (w:World),w.heap[c]? = some (.cells a t fz)->o+l.length<=a.size->
 ∃a':BR,(w.setCells c o l).heap[c]? = some (.cells a' t fz)/\a'.toList=Bi a.toList o l/\a'.size=a.size/\(w.setCells c o l).heap.size=w.heap.size/\(∀i,i≠c->(w.setCells c o l).heap[i]? = w.heap[i]?)/\(w.setCells c o l).output=w.output/\(w.setCells c o l).os=w.os:=by
 intro l;induction l with
 | nil=>intro o a w hw _;exact⟨a,hw,by rw[Jh],rfl,rfl,fun _ _=>rfl,rfl,rfl⟩
 | cons v l ih=>
  intro o a w hw hlen;simp only[bT]at hlen;have hw1:(w.setCell ⟨c,o,none⟩ v).heap[c]? = some (.cells (a.setIfInBounds o v) t fz):=by
   simp only[World.setCell,ABo,AAR,hw];rfl
  obtain⟨a',r1,r2,r2b,r3,r4,r5,r6⟩:=ih (o+1) (a.setIfInBounds o v) (w.setCell ⟨c,o,none⟩ v) hw1 (by simp;omega);refine⟨a',r1,?_,by rw[r2b];simp,?_,?_,r5,r6⟩
  ·rw[r2,G4 _ _ _ _ (by simp;omega),AAY]
  ·show((w.setCell ⟨c,o,none⟩ v).setCells c (o+1) l).heap.size=_;rw[r3];simp[World.setCell]
  ·intro i hi;show((w.setCell ⟨c,o,none⟩ v).setCells c (o+1) l).heap[i]? = _;rw[r4 i hi];simp only[World.setCell,ABo];rw[JT (gi hi)]
def Qm (P:Program) (f:FuncId) (k:Nat):Prop:=∀(b off n c i vb voff m vc:Nat) (cs vs:AL) (w:World),i < n->0 < m->n+m<=c->c<=9223372036854775807->vb≠b->
 cs.length=n * k->vs.length=m * k->
 (∀j v,cs[j]? = some v->w.cell? ⟨b,off+j,none⟩=some v)->(∀j,j < (n+m) * k->(w.cell? ⟨b,off+j,none⟩).isSome=true)->(∀j,j < (n+m) * k->w.frozen? ⟨b,off+j,none⟩=false)->
 (∀j v,vs[j]? = some v->w.cell? ⟨vb,voff+j,none⟩=some v)->(∀v∈cs,v.oneCell'=true)->(∀v∈vs,v.oneCell'=true)->
 ∀(tA tB:TypeId) (kA kB:Nat),w.shape? vb=some (tA,kA)->w.shape? b=some (tB,kB)->kB≠0->w.frozen? ⟨vb,voff,none⟩=false->w.frozen? ⟨vb,kA,none⟩=false->
 Calls P f #[.slice (some ⟨b,off,none⟩) n c,.int .i64 i,.slice (some ⟨vb,voff,none⟩) m vc] w fun e w'=>
  e= .returned (.slice (some ⟨b,off,none⟩) (n+m) c)/\w'=(w.drew.setCells b (off+(i+m) * k) (cs.drop (i * k))).setCells b (off+i * k) vs
def UJ (P:Program) (f:FuncId) (k B:Nat) (E:TypeId):Prop:=∀(b off n c i vb voff m vc:Nat) (cs vs:AL) (w:World),i < n->0 < m->n<=c->c < n+m->(2 * (n+m)+192) * B<=281474976710656->
 cs.length=n * k->vs.length=m * k->
 (∀j v,cs[j]? = some v->w.cell? ⟨b,off+j,none⟩=some v)->
 (∀j v,vs[j]? = some v->w.cell? ⟨vb,voff+j,none⟩=some v)->(∀v∈cs,v.oneCell'=true)->(∀v∈vs,v.oneCell'=true)->
 Calls P f #[.slice (some ⟨b,off,none⟩) n c,.int .i64 i,.slice (some ⟨vb,voff,none⟩) m vc] w fun e w'=>
  ∃(G:Nat) (ROW:BR),n+m<=G/\ROW.size=G * k/\ROW.toList.take (i * k)=cs.take (i * k)/\e= .returned (.slice (some ⟨w.heap.size,0,none⟩) (n+m) G)/\G<=9223372036854775807/\
   w'=(((w.alloc (.cells ROW E)).drew.setCells w.heap.size (i * k) vs).drew).setCells w.heap.size ((i+m) * k) (cs.drop (i * k))
theorem Su (A B D:AL) (y:Nat):Bi (A++B) (A.length+y) D=A++Bi B y D:=by
 unfold Bi;rw[ABT,Nw (by omega),aU]
 congr 1
 rw[show A.length+y - A.length=y by omega]
 congr 2
 rw[show A.length+y+D.length=A.length+(y+D.length) by omega,AA8];rw[AA5 (by omega),ic,show A.length+(y+D.length) - A.length=y+D.length by omega]
theorem bt (A D V:AL) (x y:Nat) (hxy:x+V.length=y) (hy:y+D.length<=A.length):(Bi (Bi A y D) x V).take (x+V.length+D.length)=A.take x++(V++D):=by
 unfold Bi;have h1:(A.take y++(D++A.drop (y+D.length))).take x=A.take x:=by
  rw[Zq (by rw[Rg];omega),tV,rH (by omega)]
 have h2:(A.take y++(D++A.drop (y+D.length))).drop (x+V.length)=D++A.drop (y+D.length):=by
  rw[hxy,AA8,AA5 (by rw[Rg];omega),ic,Rg,rH (by omega),me,bl]
 rw[h1,h2,<-aU,<-aU,<-aU,Zq (by simp;omega),Nw (by simp;omega),aU]
theorem Y3 (A D V:AL) (x y:Nat) (hxy:x+V.length=y) (hy:y+D.length<=A.length):(Bi (Bi A x V) y D).take (x+V.length+D.length)=A.take x++(V++D):=by
 unfold Bi;have h1:(A.take x++(V++A.drop (x+V.length))).take y=A.take x++V:=by
  rw[<-aU,Zq (by simp;omega),Nw (by simp;omega)]
 rw[h1,<-aU,Zq (by simp;omega),Nw (by simp;omega),aU]
section
variable {P:Program} {laid:Co}
theorem O0 {W:World} {c:Nat} {arr:BR} {t:TypeId} {fz:Nat × Nat} (hob:W.heap[c]? = some (.cells arr t fz)) {d n j:Nat} {v:Value} (h:((arr.toList.drop d).take n)[j]? = some v):W.cell? ⟨c,d+j,none⟩=some v:=by
 rw[mM]at h;split at h
 ·rw[mX]at h;simp only[World.cell?,hob];simpa using h
 ·cases h
theorem O6 {μ:Ae} {l l':AL} (h:Am μ l l') (hok:l.all Bh=true):∀v∈l',v.oneCell'=true:=by
 intro q hq;obtain⟨k,hk,rfl⟩:=AAU hq;have hl:=h.length;have hk2:k < l.length:=by omega
 exact Jk (h.idx k hk2 hk) (List.all_eq_true.1 hok _ (AAX hk2))
theorem Jd {f:FuncId} {k B:Nat} {E:TypeId} (ON:∃n c,entry P f=some (n,c)) (hk0:0 < k) (hk1:k≠1) (hS:Qm P f k) (hG:UJ P f k B E):CY P laid f (Fl k B):=by
 refine⟨ON,?_⟩;intro base W0 μ H W args args' v H' hW h hl ha hF;unfold Fl at hF;split at hF
 ·rename_i b off len cap i vb voff m vcap;cases hc0:(Nat.ble Aa cap&&Nat.blt i len&& !(Nat.beq vb b)&& !(Nat.beq m 0)&&Qj (H.get vb))
  ·simp only[hc0,EB]at hF;cases hF
  simp only[hc0,C8]at hF;simp only[Dg,sd]at hc0;obtain⟨⟨⟨⟨g1,g2⟩,g3⟩,g4⟩,g5⟩:=hc0;have g1:=BE g1;have g2:i < len:=BE g2;have g3:vb≠b:=by rintro rfl;rw[VX]at g3;cases g3
  have g4:m≠0:=by rintro rfl;cases g4
  generalize hq:args'.toList=q at ha;cases ha with
  | cons h1 ha=>cases ha with
   | cons h2 ha=>cases ha with
    | cons h3 ha=>
     cases ha
     cases h2
     cases h1 with
     | slice _ _ _ _ cap' o' T hm hcr ho=>
      cases h3 with
      | slice _ _ _ _ vcap' vo' T2 hm2 hcr2 ho2=>
       have hargs:args'=#[.slice (some ⟨T.c,o',none⟩) len cap',.int .i64 (Int.ofNat i),.slice (some ⟨T2.c,vo',none⟩) m vcap']:=by rw[<-yi,hq]
       subst hargs;have hcr':cap - Aa<=cap'/\len<=cap'/\off+cap' * T.e<=T.r/\(T.e=1∨cap'<=9223372036854775807):=by
        rcases hcr with⟨c1,c2⟩ | ⟨c1,c2,c3,c4,c5⟩
        ·omega
        ·exact⟨c2,c3,c4,c5⟩
       obtain⟨c2,c3,c4,c5⟩:=hcr';have hoo:o'=T.d+off:=by
        rcases ho with ho | ⟨e1,_⟩
        ·exact ho
        ·omega
       subst hoo;have hoo2:vo'=T2.d+voff:=by
        rcases ho2 with ho | ⟨e1,_⟩
        ·exact ho
        ·omega
       subst hoo2;split at hF
       ·rename_i n new hsrc;have hmk:m * k≠0:=ABX g4 (by omega);unfold EM at hsrc;simp only at hsrc;cases hz:Nat.beq (m * k) 0
        ·simp only[hz,EB]at hsrc;split at hsrc
         ·rename_i vcs ve vro hgetv;cases hll:Nat.beq ((vcs.drop voff).take (m * k)).length (m * k)
          ·simp only[hll,EB]at hsrc;cases hsrc
          simp only[hll,C8,C5,Si]at hsrc;obtain⟨rfl,rfl⟩:=hsrc;have hvlen:=DN hll;have hvro:vro=false/\ve≠1:=by
           rw[hgetv]at g5;unfold Qj at g5;cases vro
           ·refine⟨rfl,?_⟩;rintro rfl;simp at g5
           ·simp at g5
          obtain⟨rfl,hve⟩:=hvro;unfold oK at hF;split at hF
          ·rename_i cs e hget;simp only at hF;cases hbb:(Nat.beq ((cs.drop off).take (len * k)).length (len * k)&&Nat.beq e k&&((cs.drop off).take (len * k)).all Bh&&((vcs.drop voff).take (m * k)).all Bh&&Nat.ble ((2 * (len+m)+192) * B) 281474976710656&&Nat.ble (len+m) 4611686018427387904)
           ·simp only[hbb,EB]at hF;cases hF
           simp only[hbb,C8,C5,Si]at hF;obtain⟨rfl,rfl⟩:=hF;simp only[Dg]at hbb;obtain⟨⟨⟨⟨⟨b1,b2⟩,b3⟩,b4⟩,b5⟩,b6⟩:=hbb;have b1:=DN b1;have b2:=DN b2;have b5:=BE b5;have b6:=BE b6;subst b2;obtain⟨ob,hob,hor⟩:=h.obj b _ hget T hm;obtain⟨ov,hov,horv⟩:=h.obj vb _ hgetv T2 hm2;cases hor with
           | cells _ _ _ arr t lo hi2 hTe hcl hsz hfz=>
            cases horv with
            | cells _ _ _ varr vt vlo vhi hTe2 hclv hszv hfzv=>
             have hTc:T2.c≠T.c:=fun e1=>g3 (h.inj vb b _ _ hgetv hget T2 T hm2 hm id id e1 (.inr rfl))
             rw[<-hTe]at c4 c5;have hold:Am μ ((cs.drop off).take (len * e)) ((arr.toList.drop (T.d+off)).take (len * e)):=by
              have:=(hcl.drop off).take (len * e);rw[AAu,AAh,tV,rH (by rw[Rg,Tx]at b1;omega)]at this;exact this
             have hnew:Am μ ((vcs.drop voff).take (m * e)) ((varr.toList.drop (T2.d+voff)).take (m * e)):=by
              have:=(hclv.drop voff).take (m * e);rw[AAu,AAh,tV,rH (by rw[Rg,Tx]at hvlen;omega)]at this;exact this
             have hlo:=hold.length;have hln:=hnew.length;generalize hO:(cs.drop off).take (len * e)=O at hold hlo b1 b3 ⊢;generalize hV:(vcs.drop voff).take (m * e)=V at hnew hln hvlen b4 ⊢;generalize hO':(arr.toList.drop (T.d+off)).take (len * e)=O' at hold hlo;generalize hV':(varr.toList.drop (T2.d+voff)).take (m * e)=V' at hnew hln;have hcsC:∀j v,O'[j]? = some v->W.cell? ⟨T.c,T.d+off+j,none⟩=some v:=fun j v hj=>O0 hob (by rw[hO'];exact hj)
             have hvsC:∀j v,V'[j]? = some v->W.cell? ⟨T2.c,T2.d+voff+j,none⟩=some v:=fun j v hj=>O0 hov (by rw[hV'];exact hj)
             have h1O:=O6 hold b3;have h1V:=O6 hnew b4;have hie:i * e<=len * e:=di _ (by omega);have hmul:(i+m) * e=i * e+m * e:=sx _ _ _;have hmul2:(len+m) * e=len * e+m * e:=sx _ _ _;obtain⟨hdel,hdelE⟩:=h.del hm;have hrel:Am μ (O.take (i * e)++(V++O.drop (i * e))) (O'.take (i * e)++(V'++O'.drop (i * e))):=(hold.take _).append (hnew.append (hold.drop _));have hrl:(O.take (i * e)++(V++O.drop (i * e))).length=len * e+m * e:=by
              simp only[Pq,Rg,Tx];omega
             have hdl:(O'.drop (i * e)).length=len * e - i * e:=by rw[Tx];omega
             have hvsz:T2.d+voff+m * e<=varr.size:=by
              have:=hclv.length;have hx:((varr.toList.drop (T2.d+voff)).take (m * e)).length=m * e:=by rw[hV'];omega
              rw[Rg,Tx,ax]at hx;omega
             by_cases hfit:len+m<=cap'
             ·have hce:(len+m) * e<=cap' * e:=di _ hfit;refine Calls.mono (hS T.c (T.d+off) len cap' i T2.c (T2.d+voff) m vcap' O' V' W g2 (by omega) hfit (by omega) hTc (by omega) (by omega) hcsC ?_ ?_ hvsC h1O h1V vt t varr.size arr.size ?_ ?_ ?_ ?_ ?_) ?_
              ·intro j hj;simp only[World.cell?,hob];rw[dm (by omega)];rfl
              ·intro j hj;have:=hfz rfl (T.d+off+j) (.inl (by omega));simp only[World.frozen?,hob,wL,kV];omega
              ·simp only[World.shape?,hov]
              ·simp only[World.shape?,hob]
              ·have:0 < (len+m) * e:=ABL (by omega) hk0;omega
              ·have:=hfzv rfl (T2.d+voff) (.inl (by have:0 < m * e:=Nat.pos_of_ne_zero hmk;omega));simp only[World.frozen?,hov,wL,kV];omega
              ·have:=hfzv rfl varr.size (.inr ⟨rfl,hve⟩);simp only[World.frozen?,hov,wL,kV];omega
              ·rintro ex W' ⟨rfl,rfl⟩;obtain⟨a1,r1,r2,r2b,r3,r4,r5,r6⟩:=Hi T.c t (lo,hi2) (O'.drop (i * e)) (T.d+off+(i+m) * e) arr W.drew hob (by omega);obtain⟨a2,s1,s2,s2b,s3,s4,s5,s6⟩:=Hi T.c t (lo,hi2) V' (T.d+off+i * e) a1 _ r1 (by omega);obtain⟨φ,q⟩:=h.abs;have hmap:=hdel.K8 (T:=⟨T.c,T.d+off,T.r - off,e⟩) (o:= .cells (O.take (i * e)++(V++O.drop (i * e))) e false) (W':=(W.drew.setCells T.c (T.d+off+(i+m) * e) (O'.drop (i * e))).setCells T.c (T.d+off+i * e) V')
                (by rw[s3,r3];exact GO _) (fun j _ hj=>by rw[s4 j hj,r4 j hj];rfl)
                (fun b' p T' hb' hm' hv=>by
                 intro e1;obtain⟨e2,hb2⟩:=AA.Bb hb';exact e2 (h.inj b' b _ _ hb2 hget T' T hm' hm hv id e1 (.inr rfl)))
                ⟨φ,⟨fun b' a ro T' h1 h2=>q.rep b' a ro T' (AA.Bb h1).2 h2,fun b' a ro T' h1 h2 b2 o2 T2 h3 h4 h5=>q.DG b' a ro T' (AA.Bb h1).2 h2 b2 o2 T2 (AA.Bb h3).2 h4 h5⟩,
                 fun b' a ro h1 ⟨T',h2⟩=>(q.DG b' a ro T' (AA.Bb h1).2 h2 b _ T hget hm (gi (AA.Bb h1).1)).1 id⟩
                s1 (h.own b _ hget rfl T hm id) ?_ (by rw[s5,r5];rfl) (by rw[s6,r6];rfl)
               ·exact⟨_,_,rfl,hmap.1,.slice H.next 0 _ _ _ _ ⟨T.c,T.d+off,T.r - off,e⟩ (Ae.Af _ _ _) (.inr ⟨by omega,by omega,hfit,by show 0+cap' * e<=T.r - off;omega,by show e=1∨_;omega⟩) (.inl rfl),hdelE.trans hmap.2⟩
               ·refine .cells ⟨T.c,T.d+off,T.r - off,e⟩ _ _ false _ t lo hi2 rfl ?_ ?_ ?_
                ·show Am μ _ (List.take _ (List.drop (T.d+off) a2.toList));have hA:arr.toList=arr.toList.take (T.d+off)++arr.toList.drop (T.d+off):=(AA6 _ _).symm;have hAl:(arr.toList.take (T.d+off)).length=T.d+off:=by rw[Rg,ax];omega
                 generalize hA0:arr.toList.take (T.d+off)=A0 at hA hAl;generalize hA1:arr.toList.drop (T.d+off)=A1 at hA hO';have hA1l:(len+m) * e<=A1.length:=by rw[<-hA1,Tx,ax];omega
                 have hs2:a2.toList=A0++Bi (Bi A1 ((i+m) * e) (O'.drop (i * e))) (i * e) V':=by
                  rw[s2,r2,hA];rw[show T.d+off+(i+m) * e=A0.length+(i+m) * e by omega,Su];rw[show T.d+off+i * e=A0.length+i * e by omega,Su]
                 rw[hs2,hrl,List.drop_left' hAl];have hup:=bt A1 (O'.drop (i * e)) V' (i * e) ((i+m) * e) (by omega) (by omega);rw[show i * e+V'.length+(O'.drop (i * e)).length=len * e+m * e by omega]at hup;rw[hup,show A1.take (i * e)=O'.take (i * e) by rw[<-hO',tV,rH hie]];exact hrel
                ·show a2.size=T.d+off+(T.r - off);omega
                ·intro _ j hj;refine hfz rfl j ?_;have:a2.size=arr.size:=by omega
                 rw[<-this];exact hj
             ·refine Calls.mono (hG T.c (T.d+off) len cap' i T2.c (T2.d+voff) m vcap' O' V' W g2 (by omega) c3 (by omega) b5 (by omega) (by omega) hcsC hvsC h1O h1V) ?_;rintro ex W' ⟨G,ROW,z1,z2,z3,rfl,z4,rfl⟩;have hGe:(len+m) * e<=G * e:=di _ z1;have hal:(W.alloc (.cells ROW E)).drew.heap[W.heap.size]? = some (.cells ROW E (0,0)):=by
               show(W.heap.push _)[W.heap.size]? = _;simp
              obtain⟨a1,r1,r2,r2b,r3,r4,r5,r6⟩:=Hi W.heap.size E (0,0) V' (i * e) ROW (W.alloc (.cells ROW E)).drew hal (by omega);obtain⟨a2,s1,s2,s2b,s3,s4,s5,s6⟩:=Hi W.heap.size E (0,0) (O'.drop (i * e)) ((i+m) * e) a1 (((W.alloc (.cells ROW E)).drew.setCells W.heap.size (i * e) V').drew) r1 (by omega);have hpush:(W.alloc (.cells ROW E)).drew.heap.size=W.heap.size+1:=by
               show(W.heap.push _).size=_;simp
              obtain⟨φ,q⟩:=hdel.abs;have hmap:=hdel.K8 (T:=⟨W.heap.size,0,G * e,e⟩) (o:= .cells (O.take (i * e)++(V++O.drop (i * e))) e false) (W':=(((W.alloc (.cells ROW E)).drew.setCells W.heap.size (i * e) V').drew).setCells W.heap.size ((i+m) * e) (O'.drop (i * e)))
               (by
                rw[s3];show W.heap.size<=((W.alloc (.cells ROW E)).drew.setCells W.heap.size (i * e) V').heap.size;rw[r3,hpush];omega)
               (fun j hjl hj=>by
                rw[s4 j hj];show((W.alloc (.cells ROW E)).drew.setCells W.heap.size (i * e) V').heap[j]? = _;rw[r4 j hj];show(W.heap.push _)[j]? = _;rw[AAg,JT (by omega)])
               (fun b' p T' hb' hm' _=>by have:=hdel.bound b' T' hm';show T'.c≠W.heap.size;omega)
               ⟨φ,q,fun b' a ro hb' ⟨T',hm'⟩ hc=>by
                have:=(GB.JA _ _ _ _ (q.rep b' a ro T' hb' hm').1).2 _ hc;exact absurd this (uB _)⟩
               s1 (fun hk=>absurd (hdel.size _ hk) (uB _)) ?_ (by rw[s5];show((W.alloc (.cells ROW E)).drew.setCells W.heap.size (i * e) V').output=_;rw[r5];rfl) (by rw[s6];show((W.alloc (.cells ROW E)).drew.setCells W.heap.size (i * e) V').os=_;rw[r6];rfl)
              ·exact⟨_,_,rfl,hmap.1,.slice H.next 0 _ _ _ _ ⟨W.heap.size,0,G * e,e⟩ (Ae.Af _ _ _) (.inr ⟨by omega,by omega,z1,by show 0+G * e<=G * e;omega,.inr z4⟩) (.inl rfl),hdelE.trans hmap.2⟩
              ·refine .cells ⟨W.heap.size,0,G * e,e⟩ _ _ false _ E 0 0 rfl ?_ ?_ (fun _ j _=>by omega)
               ·show Am μ _ (List.take _ (List.drop 0 a2.toList));rw[bl,s2,r2,hrl];have hup:=Y3 ROW.toList (O'.drop (i * e)) V' (i * e) ((i+m) * e) (by omega) (by have e5:ROW.toList.length=ROW.size:=ax;rw[e5];omega);rw[show i * e+V'.length+(O'.drop (i * e)).length=len * e+m * e by omega]at hup;rw[hup,z3];exact hrel
               ·show a2.size=0+G * e;omega
          ·cases hF
         ·cases hsrc
        ·exact absurd (DN hz) hmk
       ·cases hF
 ·cases hF
end
theorem Sp {P:Program} {laid:Co} {fs:List (FuncId × DO)} (hfs:CO P laid fs) {k:QG} {n N:Nat} (hs:Zu P laid k n N=true)
 {c':BT} {H1:AA} (hrun:HQ (Bp P laid fs) (Em k.f (CM 0 k.args .leaf) n (A9 P k.f []) (KP laid N)) c') (hd:FC (Bp P laid fs) k.f c'=some (k.v,H1)):K0 P laid k:=by
 simp only[Zu,Dg]at hs;obtain⟨⟨⟨⟨⟨h1,h2⟩,h3⟩,h4⟩,h5⟩,h6⟩:=hs;have he:entry P k.f=some (n,A9 P k.f []):=by
  cases h:entry P k.f with
  | none=>rw[h]at h6;cases h6
  | some p=>
   obtain⟨m,c⟩:=p;rw[h]at h6;rw[<-DN h6];rw[<-h];exact jz h
 exact⟨⟨n,_,he⟩,fun _ _ _ _ _ _ hW hH ha=>b9 (X:=⟨P,laid,fun _=>none,MP P⟩) (Bp P laid fs) rfl rfl hW (fun base W0 hW=>hfs.IN base W0 hW) (Hl h1 rfl) he h2 (BE h3) (Rt h4) hrun hd h5 hH ha⟩
structure PL where
 v:Value
 nx:Pk
 news:BN
inductive PT where
 | fail
 | ret (x:PL)
 | test (c:Bool) (a b:PT)
 | ask (p:Prop) (a:PT)
def PT.gt:PT->GT
 | .fail=> .fail
 | .ret x=> .ret ⟨x.v,[some (.abs (.pack x.nx) false)],x.news⟩
 | .test c a b=> .test c a.gt b.gt
 | .ask p a=> .ask p a.gt
def PT.Uh (Φ:PL->Prop):PT->Prop
 | .fail=>True
 | .ret x=>Φ x
 | .test c a b=>(c=true->a.Uh Φ)/\(c=false->b.Uh Φ)
 | .ask p a=>p->a.Uh Φ
theorem PT.Ku {Φ:PL->Prop}:∀{t:PT},t.Uh Φ->∀{y:Vm},t.gt.run=some y->∃x,Φ x/\y=⟨x.v,[some (.abs (.pack x.nx) false)],x.news⟩
 | .fail,_,_,h=>by cases h
 | .ret x,hx,_,h=>by cases h;exact⟨x,hx,rfl⟩
 | .test c a b,hx,y,h=>by
  cases c
  ·exact PT.Ku (t:=b) (hx.2 rfl) h
  ·exact PT.Ku (t:=a) (hx.1 rfl) h
 | .ask p a,hx,y,h=>by
  simp only[PT.gt,GT.run]at h;split at h
  ·rename_i hp;exact PT.Ku (t:=a) (hx hp) h
  ·cases h
theorem PT.Uh.mono {Φ Ψ:PL->Prop}:∀{t:PT},t.Uh Φ->(∀x,Φ x->Ψ x)->t.Uh Ψ
 | .fail,_,_=>trivial
 | .ret x,h,hi=>hi x h
 | .test _ _ _,h,hi=>⟨fun hc=>PT.Uh.mono (h.1 hc) hi,fun hc=>PT.Uh.mono (h.2 hc) hi⟩
 | .ask _ _,h,hi=>fun hp=>PT.Uh.mono (h hp) hi
abbrev Gk:=Pk->AL->BN->PT
def CX (N:Nat) (q:Gk) (args:AL) (objs:BN):GT:=
 match args,objs with
 | .pointer (some ⟨b,0,none⟩)::rest,.abs (.pack s) _::os=>bif Nat.beq b N then(q s rest os).gt else .fail
 | _,_=> .fail
structure HV (laid:Co) (N m:Nat) (s:Pk) (v0:Value) (news:BN) (v:Value) (H:AA):Prop where
 e:∃(bs:AW) (objs:BN) (ns:AW),Bx s objs/\bs.Nodup/\bs.length=objs.length/\bs[0]? = some N/\(∀b∈bs,JW H [N] b)/\
  (∀(i b:Nat) (o:AP),bs[i]? = some b->objs[i]? = some o->∃o1,H.get b=some o1/\o1.ro=false/\o1.Kg=true/\BV (RQ bs (C3 s)) o=some o1)/\(∀o T,objs[0]? = some o->¬o.void T)/\
  ns.Nodup/\(∀b∈ns,N+m<=b/\b∉bs)/\ns.length=news.length/\Dr (Db.J1 laid N m ns) v0=some v/\
  (∀(j b:Nat) (o:AP),ns[j]? = some b->news[j]? = some o->∃o1,BV (Db.J1 laid N m ns) o=some o1/\H.get b=some o1)
theorem HV.shut {laid:Co} {N m:Nat} {s:Pk} {v0 v:Value} {news:BN} {H:AA} (h:HV laid N m s v0 news v H) (hm:0 < m) (_hx:(AP.abs (.pack s) false).ro=false:=by rfl) (hxt:C3 s=[]):
 ∃H2,Ha (fun b=>N<=b/\b < N+m) v H H2/\Db laid N m [true] ⟨v0,[some (.abs (.pack s) false)],news⟩ v H2:=by
 obtain⟨bs,objs,ns,h1,h2,h3,h4,h5,h6,h7,h8,h9,h10,h11,h12⟩:=h.e;have hne:objs≠[]:=by
  rintro rfl;rw[AA0]at h3;rw[List.length_eq_zero_iff.1 h3]at h4;cases h4
 have hS:=E2 (s:=s) (H:=H) h2;refine⟨Le s bs H,.p8 s objs bs [N] h1 hne h3 h2 (fun b hb=>?_) h5 h6 h7 (.refl _),ns,h8,fun b hb=>(h9 b hb).1,h10,h11,fun j b o hb ho=>?_,fun j o hj hmj ho=>?_⟩
 ·rw[Q4]at hb;subst hb;exact .inr ⟨GO _,by omega⟩
 ·obtain⟨o1,g1,g2⟩:=h12 j b o hb ho;exact⟨o1,g1,by rw[hS.GK b (h9 b (cA hb)).2];exact g2⟩
 ·cases j with
  | zero=>
   cases ho
   refine⟨.abs (.pack s) false,?_,by rw[AAN];exact hS.root N h4⟩;simp only[BV];have:(Ct.pack s).HT=true:=by show wN (C3 s)=true;rw[hxt];rfl
   rw[this];rfl
  | succ j=>cases ho
theorem Ek {P:Program} {laid:Co} {fs:List (FuncId × DO)} {N:Nat} (hfs:CO P laid fs) (hm:P.follows .mixedOrders=true) (hN:(laid.all fun p=>Nat.blt p.1 N)=true) {f:FuncId} {n:Nat} (he:entry P f=some (n,A9 P f [])) {q:Gk} (hx:∀s,C3 s=[])
 (hrun:∀s rest os,(q s rest os).Uh fun x=>rest.length+1<=n/\∀objs,Bx s objs->
  ∃H',FB (DH ⟨.leaf,N⟩ (.abs (.pack s) false::EH [true] 1 os)) N false objs H' []/\
   Ak (Bp P laid fs) (N+(os.length+1)) (fun b=>N<=b/\b < N+(os.length+1)) f (Told (fun b=>N<=b/\b < N+(os.length+1)) fun v H=>HV laid N (os.length+1) x.nx x.v x.news v H) (Em f (CM 0 (.pointer (some ⟨N,0,none⟩)::rest) .leaf) n (A9 P f []) H')):
 CY P laid f (Ai laid N [true] (CX N q)):=by
 refine BF hfs hm he hN fun argsc objs y hxr hro=>?_
 unfold CX at hxr;split at hxr
 ·rename_i b rest s ro os;cases hb:Nat.beq b N
  ·simp only[hb,EB,GT.run]at hxr;cases hxr
  ·simp only[hb,C8]at hxr;have hb:=DN hb;subst hb;have hr0:ro=false:=hro 0 _ rfl rfl;subst hr0;obtain⟨x,⟨g1,g2⟩,rfl⟩:=PT.Ku (hrun s rest os) hxr;refine⟨by simpa using g1,?_⟩;refine Ak.shut (Q:=fun v H=>HV laid b (os.length+1) x.nx x.v x.news v H) ?_ fun v H hE=>hE.shut (Nat.succ_pos _) rfl (hx _)
   refine Ak.opened (b:=b) (s:=s) (ro:=false) ⟨GO _,by simp⟩ ?_ (fun ops p k h=>by cases h) fun objs hr=>?_
   ·show(DH ⟨.leaf,b⟩ (.abs (.pack s) false::EH [true] 1 os)).get b=_;rw[Fc];show(if b < b then _ else _)=_;rw[JT (uB _),me];rfl
   ·obtain⟨H',h1,h2⟩:=g2 objs hr;refine⟨H',?_,h2.OE⟩;rw[hx s];exact h1
 ·cases hxr
theorem GJ {N:Nat} {s:Pk} {os:BN} {o o1:AP} {ps ps1:BN} (hl:ps1.length=ps.length) (h0:BV (He N (N+(os.length+1)) (ps.length+1)) o=some o1)
 (hps:∀(i:Nat) (p:AP),ps[i]? = some p->∃p1,ps1[i]? = some p1/\BV (He N (N+(os.length+1)) (ps.length+1)) p=some p1):
 FB (DH ⟨.leaf,N⟩ (.abs (.pack s) false::os)) N false (o::ps) (D7 ((DH ⟨.leaf,N⟩ (.abs (.pack s) false::os)).put N o1) ps1) []:=by
 have hnx:(DH ⟨.leaf,N⟩ (.abs (.pack s) false::os)).next=N+(os.length+1):=by rw[LC];rfl
 refine dP (by rw[hnx];omega) (fun x hx=>?_) hl (by rw[hnx];exact h0) (by rw[hnx];exact hps);rw[hnx]at hx;rw[Fc];show(if x < N then _ else _)=_;rw[JT (by omega),T6 (by simp;omega)];rfl
def Ft (all:AW) (H:AA):AW->BN->Prop
 | [],[]=>True
 | b::r,o::t=>(∃o1,H.get b=some o1/\o1.ro=false/\o1.Kg=true/\BV (RQ all []) o=some o1)/\Ft all H r t
 | _,_=>False
theorem Ft.len {all:AW} {H:AA}:∀{bs:AW} {objs:BN},Ft all H bs objs->bs.length=objs.length
 | [],[],_=>rfl
 | _::_,_::_,h=>by simp[Ft.len h.2]
 | [],_::_,h=>h.elim
 | _::_,[],h=>h.elim
theorem Ft.at {all:AW} {H:AA}:∀{bs:AW} {objs:BN},Ft all H bs objs->∀(i b:Nat) (o:AP),bs[i]? = some b->objs[i]? = some o->∃o1,H.get b=some o1/\o1.ro=false/\o1.Kg=true/\BV (RQ all []) o=some o1
 | b::r,o::t,h,0,_,_,hb,ho=>by cases hb;cases ho;exact h.1
 | _::_,_::_,h,i+1,_,_,hb,ho=>Ft.at h.2 i _ _ hb ho
 | [],_,_,_,_,_,hb,_=>by cases hb
 | _::_,[],h,_,_,_,_,_=>h.elim
def Ki (ρ:Ren) (H:AA):AW->BN->Prop
 | [],[]=>True
 | b::r,o::t=>(∃o1,BV ρ o=some o1/\H.get b=some o1)/\Ki ρ H r t
 | _,_=>False
theorem Ki.len {ρ:Ren} {H:AA}:∀{bs:AW} {objs:BN},Ki ρ H bs objs->bs.length=objs.length
 | [],[],_=>rfl
 | _::_,_::_,h=>by simp[Ki.len h.2]
 | [],_::_,h=>h.elim
 | _::_,[],h=>h.elim
theorem Ki.at {ρ:Ren} {H:AA}:∀{bs:AW} {objs:BN},Ki ρ H bs objs->∀(j b:Nat) (o:AP),bs[j]? = some b->objs[j]? = some o->∃o1,BV ρ o=some o1/\H.get b=some o1
 | b::r,o::t,h,0,_,_,hb,ho=>by cases hb;cases ho;exact h.1
 | _::_,_::_,h,i+1,_,_,hb,ho=>Ki.at h.2 i _ _ hb ho
 | [],_,_,_,_,_,hb,_=>by cases hb
 | _::_,[],h,_,_,_,_,_=>h.elim
theorem Sc {laid:Co} {N m:Nat} {s:Pk} {v0 v:Value} {news:BN} {H:AA} (bs:AW) {objs:BN} (ns:AW) (hr:Bx s objs) (hx:C3 s=[]) (h0:bs[0]? = some N) (hnd:bs.Nodup) (hreach:∀b∈bs,JW H [N] b) (hobj:Ft bs H bs objs) (hroot:∀o T,objs[0]? = some o->¬o.void T)
 (Pr:ns.Nodup) (hns2:∀b∈ns,N+m<=b/\b∉bs) (hv:Dr (Db.J1 laid N m ns) v0=some v) (hnews:Ki (Db.J1 laid N m ns) H ns news):HV laid N m s v0 news v H:=
 ⟨bs,objs,ns,hr,hnd,hobj.len,h0,hreach,by rw[hx];exact hobj.at,hroot,Pr,hns2,hnews.len,hv,hnews.at⟩
theorem Told.pO {D:Nat->Prop} {Φ:Ih} {v:Value} {H:AA} {s:Pk} {b0:Nat} (bs:AW) {objs:BN} (hr:Bx s objs) (hx:C3 s=[]) (hb0:bs[0]? = some b0) (hA:b0∈Au 4 v∨D b0) (hnd:bs.Nodup) (hreach:∀b∈bs,JW H [b0] b) (hobj:Ft bs H bs objs) (hroot:∀o T,objs[0]? = some o->¬o.void T)
 (next:∀H2:AA,(∀x,x∉bs->H2.get x=H.get x)->H2.get b0=some (.abs (.pack s) false)->Told D Φ v H2):Told D Φ v H:=by
 have hS:=E2 (s:=s) (H:=H) hnd;refine .shut s objs bs [b0] hr ?_ hobj.len hnd (fun b hb=>by rw[Q4]at hb;rw[hb];exact hA) hreach (by rw[hx];exact hobj.at) hroot (next _ (fun x hx=>hS.GK x hx) (hS.root b0 hb0));rintro rfl;have:=hobj.len;rw[AA0]at this;rw[List.length_eq_zero_iff.1 this]at hb0;cases hb0
end Go.AD
namespace Go.AD
open Go.Proofs
abbrev kB:EK:=[.int .u8]
abbrev kI:EK:=[.int .i64]
def dbT:Ad:=[0,1,56,2,57,49,28,3,61,58,42,50,38,29,17,4,62,47,59,36,45,43,51,22,53,39,33,30,24,18,12,5,63,55,48,27,60,41,37,16,46,35,44,21,52,32,23,11,54,26,40,15,34,20,31,10,25,14,19,9,13,8,7,6]
def AI:Co:=[(0,[.bool false,.bool true,.bool false,.bool false,.bool true,.int .i64 2]),(1,dbT.map fun n=> .int .u8 n)]
abbrev X0:Ctx:=Bp Tryz.prog AI []
def BD (f:FuncId):Nat:=match entry Tryz.prog f with
 | some (n,_)=>n
 | none=>0
def st (f:FuncId) (args:AL) (H:AA):BT:=Em f (CM 0 args .leaf) (BD f) (A9 Tryz.prog f []) H
abbrev int (n:Int):Value:= .int .i64 n
def At (n:Nat):Value:= .pointer (some ⟨n,0,none⟩)
def Ao (n k:Nat):Value:= .slice (some ⟨n,0,some 0⟩) k 18446744073709551616
def hp (l:BN):AA:=DH ⟨.leaf,20⟩ l
def cr (m:AS) (r:Nat):AP:= .cells [Ao r m.b.length,.int .i64 m.size,.int .i64 m.Ej] 0 false
end Go.AD
namespace Go.AD
theorem wrap64 {x:Int} (h1: -9223372036854775808<=x) (h2:x<=9223372036854775807):IntKind.wrap .i64 x=x:=by
 show(if (true&&decide (x % 18446744073709551616≥9223372036854775808))=true then x % 18446744073709551616 - 18446744073709551616 else x % 18446744073709551616)=x;simp only[AAM,TL];split<;>omega
theorem AY {p:Prop} [Decidable p] {A B:Prop} (h1:p->A) (h2:¬p->B):(bif decide p then A else B):=by
 by_cases h:p
 ·rw[KE h];exact h1 h
 ·rw[MC h];exact h2 h
theorem AB {b:Bool} {A B:Prop} (h:b=true) (h1:A):(bif b then A else B):=by rw[h];exact h1
theorem AZ {b:Bool} {A B:Prop} (h:b=false) (h1:B):(bif b then A else B):=by rw[h];exact h1
theorem BX {b:Bool} {A B:Prop} (h1:b=true->A) (h2:b=false->B):(bif b then A else B):=by
 cases b
 ·exact h2 rfl
 ·exact h1 rfl
end Go.AD
namespace Go.AD
open Go.Proofs
def rowOf (k:EK):AP->Option (List (EK.C k))
 | .vec k' l _=>if h:k'=k then some (h ▸ l)else none
 | _=>none
theorem gX {k:EK} {o:AP} {l:List (EK.C k)} (h:rowOf k o=some l):∃ro,o= .vec k l ro:=by
 cases o<;>first | (cases h;done) | skip
 rename_i k' l' ro;simp only[rowOf]at h;split at h
 ·rename_i e;subst e;have h:l'=l:=AAp h;subst h;exact⟨ro,rfl⟩
 ·cases h
def td (k:EK) (b:Nat) (l:List (EK.C k)) (j n:Nat) (Q:Bm):Prop:=
 bif Nat.ble (j+n) l.length then(bif Nat.beq n 0 then Q (.slice (some ⟨21,0,none⟩) 0 0) [some (.vec k l true),none,some (.cells [] k.length false)]else
  (bif BQ b (0+n)then Q (.slice (some ⟨22,0,some 0⟩) (0+n) 18446744073709551616) [some (.vec k l true),some (.vec k ([]++List.take n (List.drop j l)) false),some (.vec k ([]++List.take n (List.drop j l)) false)]else False))else False
def yE (k:EK) (b:Nat) (l:List (EK.C k)) (j n:Nat) (Q:Bm):Prop:=
 bif Nat.blt 0 n then td k b l j n Q else(Q (.slice none 0 0) [some (.vec k l true),none]/\td k b l j n Q)
def SN (k:EK) (b:Nat) (args:AL) (objs:BN):GT:=
 match args,objs with
 | [.slice (some ⟨20,0,some j⟩) n 18446744073709551616],[o]=>match rowOf k o with
  | some l=> .ask (j+n<=l.length/\BQ b n=true) (.ret ⟨Ao 21 n,[],[.vec k (List.take n (List.drop j l)) false]⟩)
  | none=> .fail
 | [.slice none 0 0],[]=> .ret ⟨.slice none 0 0,[],[]⟩
 | _,_=> .fail
theorem Xp {H:AA} {o:AP}:(H.alloc o).get H.next=some o:=by rw[AA.AM,MB rfl]
theorem Z8 {k:EK} {m n z:Nat} {l:List (EK.C k)} {H:AA} (hk:k.all IJ=true) (hz:20+m<=z) (hg:H.get z=some (.vec k l false)):Db AI 20 m [] ⟨Ao (20+m) n,[],[.vec k l false]⟩ (Ao z n) H:=by
 refine⟨[z],by simp,fun b hb=>by rw[Q4]at hb;rw[hb];exact hz,rfl,?_,fun j b o hb ho=>?_,fun j o hj hm=>(by cases hm)⟩
 ·have e:Db.J1 AI 20 m [z] (20+m)=some z:=by
   unfold Db.J1;rw[JT (by omega),JT (by omega),me];rfl
  show(Je (Db.J1 AI 20 m [z]) ⟨20+m,0,some 0⟩).map (fun a=>Value.slice (some a) n 18446744073709551616)=_;simp only[Je,e];rfl
 ·cases j with
  | zero=>cases hb;cases ho;exact⟨_,ID k hk l false,hg⟩
  | succ j=>cases hb
theorem yb {n:Nat} (h:Nat.blt 0 n=false):n=0:=by
 rcases ABr n with h' | h'
 ·exact h'
 ·rw[show Nat.blt 0 n=true from Ez h']at h;cases h
theorem N7 {k:EK} {b:Nat} (hk:k.all IJ=true) (hk0:k.length≠0) {f:FuncId} (he:entry Tryz.prog f=some (BD f,A9 Tryz.prog f [])) (h1:Nat.ble 1 (BD f)=true)
 (hv:∀l j n Q,CU X0 Cz [] f [20,22] 21 Q 100 (st f [.slice (some ⟨20,0,some j⟩) n 18446744073709551616] (hp [.vec k l true]))=yE k b l j n Q)
 (hn:∀Q,CU X0 Cz [] f [] 20 Q 100 (st f [.slice none 0 0] (hp []))=Q (.slice none 0 0) []):CY Tryz.prog AI f (Ai AI 20 [] (SN k b)):=by
 refine BF (CO.nil _ _) (by kernel_rfl) (n:=BD f) he (by kernel_rfl) fun argsc objs x hx hro=>?_
 clear hro;unfold SN at hx;split at hx
 ·rename_i j n o;split at hx
  ·rename_i l hl;obtain⟨ro,rfl⟩:=gX hl;simp only[GT.run]at hx;split at hx
   ·rename_i hp0;cases hx
    obtain⟨hjn,hbig⟩:=hp0;refine⟨BE h1,Ak.OE ?_⟩;let P:Bm:=fun v os=>(v=Ao 22 n/\∃o0 t,os=o0::some (.vec k (List.take n (List.drop j l)) false)::t)∨(n=0/\∃o0 t,os=some o0::t/\(v= .slice none 0 0∨v= .slice (some ⟨21,0,none⟩) 0 0))
    have hP:CU X0 Cz [] f [20,22] 21 P 100 (st f [.slice (some ⟨20,0,some j⟩) n 18446744073709551616] (hp [.vec k l true])):=by
     rw[hv];have hm:td k b l j n P:=by
      refine AB (Ez hjn) (BX (fun h0=> .inr ⟨DN h0,_,_,rfl,.inr rfl⟩) fun h0=>AB (by rw[RP];exact hbig) (.inl ⟨?_,_,_,rfl⟩));rw[RP];rfl
     exact BX (fun _=>hm) fun h0=>⟨.inr ⟨yb h0,_,_,rfl,.inl rfl⟩,hm⟩
    refine Ak.mono (AX.Fh (BK (CB _) (by kernel_rfl) hP)) fun v H hq=>?_
    rcases hq with⟨rfl,o0,t,hq⟩ | ⟨rfl,o0,t,hq,hv2⟩
    ·simp only[Sm,sK,ic,Nh]at hq;exact .here (Z8 (m:=1) hk (by decide) hq.2.1)
    ·simp only[Sm,sK,ic,Nh]at hq;have h20:=hq.1;have e:List.take 0 (List.drop j l)=[]:=AAk;rw[e];have hend:(∀x o,H.get x=some o->x < H.next)->Db AI 20 1 [] ⟨Ao 21 0,[],[.vec k [] false]⟩ (Ao H.next 0) (H.alloc (.vec k [] false)):=fun hlt=>Z8 (m:=1) hk (by have:=hlt _ _ h20;omega) Xp
     rcases hv2 with rfl | rfl
     ·exact .lA k hk0 20 (.inr ⟨GO _,by simp⟩) _ (.val .nil) fun hlt=> .here (hend hlt)
     ·exact .lA k hk0 20 (.inr ⟨GO _,by simp⟩) _ (.val (.emp 21 0)) fun hlt=> .here (hend hlt)
   ·cases hx
  ·cases hx
 ·cases hx
  have hP:CU X0 Cz [] f [] 20 (fun v _=>v= .slice none 0 0) 100 (st f [.slice none 0 0] (hp [])):=by rw[hn]
  refine⟨BE h1,Ak.mono (AX.Fh (BK (CB _) (by kernel_rfl) hP)) fun v H hq=>?_⟩;have hq:v=_:=hq;subst hq;exact⟨[],dG,fun b hb=>(by cases hb),rfl,rfl,fun j b o hj=>(by cases hj),fun j o hj hm=>(by cases hm)⟩
 ·cases hx
theorem Wi:CY Tryz.prog AI FR (Ai AI 20 [] (SN kB 1)):=N7 (by decide) (by decide) (by kernel_rfl) (by kernel_rfl) (fun l j n Q=>by kernel_rfl) (fun Q=>by kernel_rfl)
theorem gD:CY Tryz.prog AI Hp (Ai AI 20 [] (SN kI 8)):=N7 (by decide) (by decide) (by kernel_rfl) (by kernel_rfl) (fun l j n Q=>by kernel_rfl) (fun Q=>by kernel_rfl)
abbrev GA:=FuncId × DO × HL
def Cv:List GA->List (FuncId × DO)
 | []=>[]
 | e::r=>(e.1,e.2.1)::Cv r
def Ax:List GA->Pf
 | []=>fun _=>none
 | e::r=>fun g=>bif Nat.beq g e.1 then some e.2.2 else Ax r g
def Xf (F:DO) (p:HL):Prop:=∀(X:Ctx) (f:FuncId),X.IN f=some F->∀args H K,p args H K->∃v H',CP X f args .normal H=some (v,H')/\K v H'
def GQ (f:FuncId) (muts:List Bool) (G:AL->BN->GT):GA:=(f,Ai AI 20 muts G,Cs AI 20 muts G)
inductive Ci:List GA->Prop where
 | nil:Ci []
 | cons {f:FuncId} {muts:List Bool} {G:AL->BN->GT} {l:List GA} (h:CY Tryz.prog AI f (Ai AI 20 muts G)) (t:Ci l):Ci (GQ f muts G::l)
 | other {e:GA} {l:List GA} (h:CY Tryz.prog AI e.1 e.2.1) (hp:Xf e.2.1 e.2.2) (t:Ci l):Ci (e::l)
theorem Ci.all {l:List GA} (h:Ci l):CO Tryz.prog AI (Cv l):=by
 induction h with
 | nil=>exact .nil _ _
 | cons h _ ih=>exact .cons h ih
 | other h _ _ ih=>exact .cons h ih
theorem Ci.at {l:List GA} (h:Ci l):∀{g:FuncId} {q:HL},Ax l g=some q->∃F,PG (Cv l) g=some F/\Xf F q:=by
 have key:∀{e:GA} {r:List GA},Xf e.2.1 e.2.2->(∀{g:FuncId} {q:HL},Ax r g=some q->∃F,PG (Cv r) g=some F/\Xf F q)->∀{g:FuncId} {q:HL},Ax (e::r) g=some q->∃F,PG (Cv (e::r)) g=some F/\Xf F q:=by
  intro e r hp ih g q hq;have hq:(bif Nat.beq g e.1 then some e.2.2 else Ax r g)=some q:=hq;show ∃F,(bif Nat.beq e.1 g then some e.2.1 else PG (Cv r) g)=some F/\Xf F q
  have hc:Nat.beq e.1 g=Nat.beq g e.1:=by
   cases h1:Nat.beq e.1 g<;>cases h2:Nat.beq g e.1<;>first | rfl | (have:=DN h2;rw[this,VX]at h1;cases h1) | (have:=DN h1;rw[this,VX]at h2;cases h2)
  rw[hc];cases hb:Nat.beq g e.1
  ·simp only[hb,EB]at hq ⊢;exact ih hq
  ·simp only[hb,C8,C5]at hq ⊢;exact⟨_,rfl,hq ▸ hp⟩
 induction h with
 | nil=>intro g q hq;cases hq
 | cons h t ih=>exact key (fun X f hX args H K h=>Gq hX h) ih
 | other h hp t ih=>exact key hp ih
theorem Ci.pf {l:List GA} (h:Ci l):HO (Bp Tryz.prog AI (Cv l)) (Ax l):=fun g q hq args H K hk=>by
 obtain⟨F,h1,h2⟩:=h.at hq;exact h2 _ g h1 args H K hk
def cB:List GA:=[GQ FR [] (SN kB 1)]
abbrev XB:Ctx:=Bp Tryz.prog AI (Cv cB)
def Xd (m:AS):AA:=hp [cr m 21,.vec kB m.b false]
theorem iM (m:AS) (Q:Bm):CU X0 Cz [] Et [20,21] 21 Q 100 (st Et [At 20] (Xd m))=(
 let c:AP:= .vec kB (AS.b m) false;let a:AP:= .cells [(Ao 21 (AS.b m).length),(int (AS.size m)),(int (AS.Ej m))] 0 false;(bif decide (AS.size m > 0)then(Q (int (Int.ofNat (AS.b m).length)) [some a,some c])else(Q (int 0) [some a,some c]))):=by kernel_rfl
theorem jH (m:AS) (Q:Bm):CU X0 Cz [] DU [20,21] 21 Q 100 (st DU [At 20] (Xd m))=(
 let c:AP:= .vec kB (AS.b m) false;let a:AP:= .cells [(Ao 21 (AS.b m).length),(int (AS.size m)),(int (AS.Ej m))] 0 false;(bif decide (AS.size m > 0)then(Q (int (AS.Ej m)) [some a,some c])else(Q (int 0) [some a,some c]))):=by kernel_rfl
theorem cu (m:AS) (Q:Bm):CU X0 Cz [] EP [20,21] 21 Q 100 (st EP [At 20] (Xd m))=(
 let c:AP:= .vec kB (AS.b m) false;let a:AP:= .cells [(Ao 21 (AS.b m).length),(int (AS.size m)),(int (AS.Ej m))] 0 false;(bif decide (AS.size m > 0)then(Q (int (IntKind.wrap .i64 (AS.size m - Int.ofNat (AS.b m).length))) [some a,some c])else(Q (int 0) [some a,some c]))):=by kernel_rfl
theorem dS (m:AS) (Q:Bm):CU X0 Cz [] EX [20,21] 21 Q 100 (st EX [At 20] (Xd m))=(
 let d:=int (AS.size m);let c:AP:= .vec kB (AS.b m) false;let a:=Ao 21 (AS.b m).length;(bif decide (AS.size m > 0)then(Q (.tuple ⟨[]⟩) [some (.cells [a,d,(int (Int.ofNat (AS.b m).length))] 0 false),some c])else(Q (.tuple ⟨[]⟩) [some (.cells [a,d,(int (AS.Ej m))] 0 false),some c]))):=by kernel_rfl
theorem Pz (m:AS) (k:Int) (Q:Bm):CU X0 Cz [] D1 [20,21] 21 Q 200 (st D1 [At 20,.int .i64 k] (Xd m))=(
 let h:=int (AS.size m);let g:=Int.ofNat (AS.b m).length - AS.Ej m;let e:AP:= .vec kB (AS.b m) false;let d:AP:= .cells [(Ao 21 (AS.b m).length),h,(int (AS.Ej m))] 0 false;let a:=AS.Ej m+if IntKind.wrap .i64 g < k then IntKind.wrap .i64 g else k;let f:=IntKind.wrap .i64 a;let c:Value:= .slice (some ⟨21,0,(some 0)⟩) (f.toNat - 0) 18446744073709551616;(bif decide (AS.size m > 0)then(bif decide (k < 0)then(Q (int 2) [some d,some e])else(bif decide (0<=IntKind.wrap .i64 a)&&Nat.ble f.toNat (AS.b m).length&&decide (0<=0)&&Nat.ble 0 f.toNat then(bif decide (AS.size m > 0)then(Q (int 0) [some (.cells [c,h,(int (Int.ofNat (f.toNat - 0)))] 0 false),some e])else(Q (int 0) [some (.cells [c,h,(int (AS.Ej m))] 0 false),some e]))else False))else(Q (int 1) [some d,some e]))):=by kernel_rfl
theorem Sv (m:AS) (o k:Int) (Q:Bm):CU XB (Ax cB) [] Bs [20,21] 21 Q 200 (st Bs [At 20,.int .i64 o,.int .i64 k] (Xd m))=(
 let f:AP:= .vec kB (AS.b m) false;let d:AP:= .cells [(Ao 21 (AS.b m).length),(int (AS.size m)),(int (AS.Ej m))] 0 false;let c:=IntKind.wrap .i64 (o+k);let e:=c.toNat - o.toNat;let a:Prop:=Q (.tuple ⟨[(.slice none 0 0),(int 3)]⟩) [some d,some f];(bif decide (AS.size m > 0)then(bif decide (o < 0)then a else(bif decide (k < 0)then a else(bif decide (k > Int.ofNat (AS.b m).length)then a else(bif decide (o > IntKind.wrap .i64 (Int.ofNat (AS.b m).length - k))then a else(bif decide (0<=IntKind.wrap .i64 (o+k))&&Nat.ble c.toNat (AS.b m).length&&Nat.blt c.toNat Aa&&decide (0<=IntKind.wrap .i64 (o+k))&&Nat.ble c.toNat c.toNat&&decide (0<=o)&&Nat.ble o.toNat c.toNat then(0+o.toNat+e<=(AS.b m).length/\BQ 1 e=true)/\(Q (.tuple ⟨[(Ao 22 e),(int 0)]⟩) [some d,some f,some (.vec ([SK.int IntKind.u8]) (List.take e (List.drop (0+o.toNat) (AS.b m))) false)])else False)))))else(Q (.tuple ⟨[(.slice none 0 0),(int 1)]⟩) [some d,some f]))):=by kernel_rfl
theorem Wz (m:AS) (l:Ad) (n:Nat) (Q:Bm):CU X0 Cz [] Be [20,22,23] 22 Q 200 (st Be [At 20,Ao 21 n] (hp [cr m 22,.vec kB l true,.vec kB m.b false]))=(
 let e:=int (AS.size m);let d:AP:= .vec kB (AS.b m) false;let c:=(AS.b m).length+n;let a:AP:= .cells [(Ao 22 (AS.b m).length),e,(int (AS.Ej m))] 0 false;(bif decide (AS.size m > 0)then(bif decide (Int.ofNat n > IntKind.wrap .i64 (AS.size m - Int.ofNat (AS.b m).length))then(Q (int 4) [some a,some d,none])else(bif Nat.ble (0+n) l.length&&Nat.ble (0+(AS.b m).length) (AS.b m).length&&BQ 1 c then(Q (int 0) [some (.cells [(Ao 23 c),e,(int (AS.Ej m))] 0 false),none,some (.vec ([SK.int IntKind.u8]) (List.take (AS.b m).length (List.drop 0 (AS.b m))++List.take n (List.drop 0 l)) false)])else False))else(Q (int 1) [some a,some d,none]))):=by kernel_rfl
theorem XL (n:Int) (Q:Bm):CU X0 Cz [] DJ [] 20 Q 200 (st DJ [.int .i64 n] (hp []))=(
 let a:Prop:=Q (.tuple ⟨[(.pointer none),(int 2)]⟩) [];(bif decide (n < 1)then a else(bif decide (n > 8192)then a else(Q (.tuple ⟨[(At 20),(int 0)]⟩) [some (.cells [(.slice none 0 0),(int n),(int 0)] 0 false)])))):=by kernel_rfl
inductive TP (b0:Nat) (H:AA) (l:Ad):Value->Prop where
 | row (k:Nat) (l':Ad) (hk:k≠b0) (hg:H.get k=some (.vec kB l' false)) (hl:l'.take l.length=l):TP b0 H l (Ao k l.length)
 | nil (h:l=[]):TP b0 H l (.slice none 0 0)
 | emp (b o:Nat) (h:l=[]):TP b0 H l (.slice (some ⟨b,o,none⟩) 0 0)
theorem TA {H:AA} {o:AP} {x:Nat} (h:x≠H.next):(H.alloc o).get x=H.get x:=by rw[AA.AM,JT h]
theorem LB {H:AA} {o:AP}:(H.alloc o).get H.next=some o:=by rw[AA.AM,MB rfl]
theorem Hg {H:AA} {o:AP} {b x:Nat} (h:x≠b):(H.put b o).get x=H.get x:=by rw[AA.AU,JT h]
theorem K2 {H:AA} {o:AP} {b:Nat}:(H.put b o).get b=some o:=by rw[AA.AU,MB rfl]
theorem Pc (m:AS) (objs:BN) (hr:Bx (.CJ m) objs):ED m/\FB (DH ⟨.leaf,20⟩ [.abs (.pack (.CJ m)) false]) 20 false objs (Xd m) []:=by
 cases hr with
 | CJ _ h=>
  refine⟨h,?_⟩;have:=GJ (N:=20) (s:= .CJ m) (os:=[]) (o:= .cells [.slice (some ⟨1,0,some 0⟩) m.b.length cU,.int .i64 m.size,.int .i64 m.Ej] 0 false) (o1:=cr m 21) (ps:=[.vec kB m.b false]) (ps1:=[.vec kB m.b false]) rfl rfl (fun i p hp=>by
   cases i with
   | zero=>cases hp;exact⟨_,rfl,rfl⟩
   | succ i=>cases i<;>cases hp)
  have e:D7 ((DH ⟨.leaf,20⟩ [.abs (.pack (.CJ m)) false]).put 20 (cr m 21)) [.vec kB m.b false]=Xd m:=by kernel_rfl
  rw[e]at this;exact this
theorem Yc {H:AA} {k n:Nat} {a b:Value} (h:H.get 20=some (.cells [Ao k n,a,b] 0 false)):∀x∈[20,k],JW H [20] x:=by
 intro x hx;have h0:JW H [20] 20:= .here (by simp);simp only[Ul,bG,vK]at hx;rcases hx with rfl | rfl
 ·exact h0
 ·exact .next h0 h (by simp[IK,Au,Ao])
theorem QY {m':AS} {H:AA} {j k:Nat} {v:Value} (hok:ED m') (hk:k≠20) (h20:H.get 20=some (.cells [Ao k m'.b.length,.int .i64 m'.size,.int .i64 m'.Ej] 0 false)) (hr:H.get k=some (.vec kB m'.b false)) (hv:Cu 6 v=true):
 HV AI 20 j (.CJ m') v [] v H:=by
 refine⟨[20,k],_,[],.CJ m' hok,by simp[Ne.symm hk],rfl,rfl,Yc h20,?_,?_,dG,fun b hb=>(by cases hb),rfl,J8 6 v hv,fun j b o hj=>(by cases hj)⟩
 ·intro i b o hb ho;cases i with
  | zero=>cases hb;cases ho;exact⟨_,h20,rfl,rfl,rfl⟩
  | succ i=>cases i with
   | zero=>cases hb;cases ho;exact⟨_,hr,rfl,rfl,rfl⟩
   | succ i=>cases hb
 ·intro o T ho;cases ho;exact id
theorem Up {m':AS} {H:AA} {j:Nat} {D:Nat->Prop} {v x:Value} (hD:D 20) (hok:ED m') (h20:H.get 20=some (.cells [x,.int .i64 m'.size,.int .i64 m'.Ej] 0 false)) (hx:TP 20 H m'.b x) (hv:Cu 6 v=true):
 Told D (HV AI 20 j (.CJ m') v []) v H:=by
 cases hx with
 | row k l' hk hg hl=>
  refine .SW k kB l' false m'.b.length hg (.here (QY hok hk ?_ ?_ hv))
  ·rw[Hg (gi hk)];exact h20
  ·rw[K2,hl]
 | nil h=>
  refine .U0 kB (by decide) 20 (.inr hD) v (.val (.same v)) 20 _ _ 0 false h20 (.cons .nil (Vd.refl _ _)) fun hlt=> .here (QY (k:=H.next) hok ?_ ?_ ?_ hv)
  ·have:=hlt _ _ h20;omega
  ·rw[K2,h];rfl
  ·rw[Hg (by have:=hlt _ _ h20;omega),LB,h]
 | emp b o h=>
  refine .U0 kB (by decide) 20 (.inr hD) v (.val (.same v)) 20 _ _ 0 false h20 (.cons (.emp b o) (Vd.refl _ _)) fun hlt=> .here (QY (k:=H.next) hok ?_ ?_ ?_ hv)
  ·have:=hlt _ _ h20;omega
  ·rw[K2,h];rfl
  ·rw[Hg (by have:=hlt _ _ h20;omega),LB,h]
theorem okB:Ci cB:= .cons Wi .nil
inductive Uj (k:Nat) (o1:Option AP) (l:Ad):Value->Prop where
 | row (l':Ad) (ho:o1=some (.vec kB l' false)) (hl:l'.take l.length=l):Uj k o1 l (Ao k l.length)
 | nil (h:l=[]):Uj k o1 l (.slice none 0 0)
 | emp (b o:Nat) (h:l=[]):Uj k o1 l (.slice (some ⟨b,o,none⟩) 0 0)
theorem Uj.at {b0 k:Nat} {H:AA} {l:Ad} {y:Value} (hk:k≠b0) (h:Uj k (H.get k) l y):TP b0 H l y:=by
 cases h with
 | row l' ho hl=>exact .row k l' hk ho hl
 | nil h=>exact .nil h
 | emp b o h=>exact .emp b o h
def p6 (v0:Value) (m':AS) (k:Nat) (v:Value) (os:LR):Prop:=
 v=v0/\∃y o1 t,os=some (.cells [y,.int .i64 m'.size,.int .i64 m'.Ej] 0 false)::o1::t/\Uj k o1 m'.b y
theorem p6.at {v0 v:Value} {m':AS} {k:Nat} {H:AA} {r:AW} (hk:k≠20) (h:p6 v0 m' k v ((20::k::r).map H.get)):v=v0/\∃y,H.get 20=some (.cells [y,.int .i64 m'.size,.int .i64 m'.Ej] 0 false)/\TP 20 H m'.b y:=by
 obtain⟨h1,y,o1,t,h2,h3⟩:=h;simp only[Sm,Nh]at h2;obtain⟨h4,rfl,_⟩:=h2;exact⟨h1,y,h4,h3.at hk⟩
theorem YV {fs:List (FuncId × DO)} (hfs:CO Tryz.prog AI fs) {f:FuncId} (he:entry Tryz.prog f=some (BD f,A9 Tryz.prog f [])) {q:Gk}
 (hq:∀s rest os,(q s rest os).Uh fun x=>∃m m',s= .CJ m/\os=[]/\Nat.ble (rest.length+1) (BD f)=true/\x.nx= .CJ m'/\x.news=[]/\Cu 6 x.v=true/\(ED m->ED m'/\∃k,k≠20/\∃n,CU (Bp Tryz.prog AI fs) Cz [] f [20,k] 21 (p6 x.v m' k) n (st f (At 20::rest) (Xd m)))):
 CY Tryz.prog AI f (Ai AI 20 [true] (CX 20 q)):=by
 refine Ek hfs (by kernel_rfl) (by kernel_rfl) he (fun _=>rfl) fun s rest os=>?_
 refine PT.Uh.mono (hq s rest os) fun x ⟨m,m',e1,e2,e3,e4,e5,e6,e7⟩=>?_
 subst e1 e2;refine⟨BE e3,fun objs hr=>?_⟩;obtain⟨h1,h2⟩:=Pc m objs hr;obtain⟨h3,k,hk,n,h4⟩:=e7 h1;refine⟨_,h2,Ak.mono (AX.Fh (BK (CB _) (by kernel_rfl) h4)) fun v H hQ=>?_⟩;obtain⟨rfl,y,g1,g2⟩:=hQ.at hk;rw[e4,e5];exact Up ⟨GO _,by decide⟩ h3 g1 g2 e6
def QE (g:AS->Int):Gk:=fun s rest os=>match s,rest,os with
 | .CJ m,[],[]=> .ret ⟨int (g m),.CJ m,[]⟩
 | _,_,_=> .fail
theorem qp (m:AS):Uj 21 (some (.vec kB m.b false)) m.b (Ao 21 m.b.length):= .row m.b rfl qs
theorem KQ (m:AS) (v:Value) (t:LR):p6 v m 21 v (some (cr m 21)::some (.vec kB m.b false)::t):=⟨rfl,_,_,_,rfl,qp m⟩
theorem OZ {f:FuncId} (he:entry Tryz.prog f=some (BD f,A9 Tryz.prog f [])) (g:AS->Int) (h1:Nat.ble 1 (BD f)=true)
 (h:∀m,ED m->CU X0 Cz [] f [20,21] 21 (p6 (int (g m)) m 21) 100 (st f [At 20] (Xd m))):CY Tryz.prog AI f (Ai AI 20 [true] (CX 20 (QE g))):=by
 refine YV (CO.nil _ _) he fun s rest os=>?_
 unfold QE;split
 ·rename_i m;exact⟨m,m,rfl,rfl,h1,rfl,rfl,rfl,fun hm=>⟨hm,21,by decide,100,h m hm⟩⟩
 ·trivial
def kM:Gk:=QE fun m=>m.b.length
def kg:Gk:=QE fun m=>m.Ej
def bL:Gk:=QE fun m=>m.size - m.b.length
theorem cz:CY Tryz.prog AI Et (Ai AI 20 [true] (CX 20 kM)):=
 OZ (by kernel_rfl) _ (by kernel_rfl) fun m hm=>by rw[iM];exact AY (fun _=>KQ m _ _) (fun h=>absurd hm.pos h)
theorem cG:CY Tryz.prog AI DU (Ai AI 20 [true] (CX 20 kg)):=
 OZ (by kernel_rfl) _ (by kernel_rfl) fun m hm=>by rw[jH];exact AY (fun _=>KQ m _ _) (fun h=>absurd hm.pos h)
theorem YS:CY Tryz.prog AI EP (Ai AI 20 [true] (CX 20 bL)):=
 OZ (by kernel_rfl) _ (by kernel_rfl) fun m hm=>by
  rw[cu];refine AY (fun _=>?_) (fun h=>absurd hm.pos h);have:=hm.len;have:=hm.eo;rw[wrap64 (by show(-9223372036854775808:Int)<=m.size - (m.b.length:Int);omega) (by show m.size - (m.b.length:Int)<=_;omega)];exact KQ m _ _
def unit:Value:= .tuple ⟨[]⟩
def Td (g:AS->AS):Gk:=fun s rest os=>match s,rest,os with
 | .CJ m,[],[]=> .ret ⟨unit,.CJ (g m),[]⟩
 | _,_,_=> .fail
theorem VK {f:FuncId} (he:entry Tryz.prog f=some (BD f,A9 Tryz.prog f [])) (g:AS->AS) (h1:Nat.ble 1 (BD f)=true) (hg:∀m,ED m->ED (g m))
 (h:∀m,ED m->CU X0 Cz [] f [20,21] 21 (p6 unit (g m) 21) 100 (st f [At 20] (Xd m))):CY Tryz.prog AI f (Ai AI 20 [true] (CX 20 (Td g))):=by
 refine YV (CO.nil _ _) he fun s rest os=>?_
 unfold Td;split
 ·rename_i m;exact⟨m,g m,rfl,rfl,h1,rfl,rfl,rfl,fun hm=>⟨hg m hm,21,by decide,100,h m hm⟩⟩
 ·trivial
def Cn (m:AS):AS:=⟨m.size,m.b.length,m.b⟩
theorem ED.sync {m:AS} (h:ED m):ED (Cn m):=⟨h.pos,h.eo,h.len,by show(0:Int)<=(m.b.length:Int);omega,AAm _⟩
theorem YX:CY Tryz.prog AI EX (Ai AI 20 [true] (CX 20 (Td Cn))):=
 VK (by kernel_rfl) _ (by kernel_rfl) (fun _ h=>h.sync) fun m hm=>by rw[dS];exact AY (fun _=>⟨rfl,_,_,_,rfl,qp m⟩) (fun h=>absurd hm.pos h)
def Dd (m:AS) (k:Int):Int:=m.Ej+(if (m.b.length:Int) - m.Ej < k then(m.b.length:Int) - m.Ej else k)
def M3 (m:AS) (k:Int):AS:=⟨m.size,Dd m k,m.b.take (Dd m k).toNat⟩
def P9:Gk:=fun s rest os=>match s,rest,os with
 | .CJ m,[.int .i64 k],[]=> .test (decide (k < 0)) (.ret ⟨int 2,.CJ m,[]⟩) (.ret ⟨int 0,.CJ (M3 m k),[]⟩)
 | _,_,_=> .fail
theorem Vy {m:AS} (h:ED m) {k:Int} (hk:0<=k):0<=Dd m k/\Dd m k<=m.b.length:=by
 have:=h.d0;have:=h.d1;unfold Dd;split<;>omega
theorem ED.wZ {m:AS} (h:ED m) {k:Int} (hk:0<=k):ED (M3 m k)/\((m.b.take (Dd m k).toNat).length:Int)=Dd m k:=by
 obtain⟨h1,h2⟩:=Vy h hk;have h3:((m.b.take (Dd m k).toNat).length:Int)=Dd m k:=by rw[Rg];omega
 refine⟨⟨h.pos,h.eo,?_,h1,?_⟩,h3⟩
 ·show((m.b.take (Dd m k).toNat).length:Int)<=m.size;have:=h.len;omega
 ·show Dd m k<=((m.b.take (Dd m k).toNat).length:Int);omega
theorem XM:CY Tryz.prog AI D1 (Ai AI 20 [true] (CX 20 P9)):=by
 refine YV (CO.nil _ _) (by kernel_rfl) fun s rest os=>?_
 unfold P9;split
 ·rename_i m k;refine⟨fun hk=>⟨m,m,rfl,rfl,by kernel_rfl,rfl,rfl,rfl,fun hm=>⟨hm,21,by decide,200,?_⟩⟩,fun hk=>⟨m,M3 m k,rfl,rfl,by kernel_rfl,rfl,rfl,rfl,fun hm=>?_⟩⟩
  ·rw[Pz];exact AB (KE hm.pos) (AB hk (KQ m _ _))
  ·have hk:0<=k:=by simpa using hk
   obtain⟨h1,h2⟩:=hm.wZ hk;obtain⟨h3,h4⟩:=Vy hm hk;refine⟨h1,21,by decide,200,?_⟩;rw[Pz];(conv=>zeta)
   have:=hm.len;have:=hm.eo;have:=hm.d0;have:=hm.d1;have e1:IntKind.wrap .i64 (Int.ofNat m.b.length - m.Ej)=(m.b.length:Int) - m.Ej:=wrap64 (by show(-9223372036854775808:Int)<=(m.b.length:Int) - m.Ej;omega) (by show(m.b.length:Int) - m.Ej<=_;omega);have e2:IntKind.wrap .i64 (m.Ej+if (m.b.length:Int) - m.Ej < k then(m.b.length:Int) - m.Ej else k)=Dd m k:=by
    show IntKind.wrap .i64 (Dd m k)=_;exact wrap64 (by omega) (by omega)
   rw[e1,e2];have e3:(Dd m k).toNat - 0=(m.b.take (Dd m k).toNat).length:=by omega
   refine AB (KE hm.pos) (AY (fun h=>absurd h (by omega)) fun _=>AB ?_ (AB (KE hm.pos) ⟨rfl,Ao 21 (m.b.take (Dd m k).toNat).length,some (.vec kB m.b false),[],?_,.row m.b rfl ?_⟩))
   ·simp only[Dg,TL];exact⟨⟨⟨h3,Ez (by omega)⟩,by decide⟩,Ez (ay _)⟩
   ·show [some (AP.cells [Ao 21 ((Dd m k).toNat - 0),int m.size,int (((Dd m k).toNat - 0:Nat):Int)] 0 false),some (.vec kB m.b false)]=[some (AP.cells [Ao 21 (m.b.take (Dd m k).toNat).length,int m.size,int (Dd m k)] 0 false),some (.vec kB m.b false)];rw[e3,h2]
   ·show m.b.take (m.b.take (Dd m k).toNat).length=m.b.take (Dd m k).toNat
    rw[<-e3,ABV]
 ·trivial
theorem mG {m':AS} {H:AA} {k z n:Nat} {l:Ad} {e:Int} (hok:ED m') (hk:k≠20) (hz:21<=z) (hzk:z≠k) (h20:H.get 20=some (.cells [Ao k m'.b.length,int m'.size,int m'.Ej] 0 false)) (hr:H.get k=some (.vec kB m'.b false)) (hg:H.get z=some (.vec kB l false)):
 HV AI 20 1 (.CJ m') (.tuple ⟨[Ao 21 n,int e]⟩) [.vec kB l false] (.tuple ⟨[Ao z n,int e]⟩) H:=by
 obtain⟨bs,objs,ns,h1,h2,h3,h4,h5,h6,h7,_⟩:=(QY (j:=1) (v:=unit) hok hk h20 hr rfl).e;refine⟨[20,k],_,[z],.CJ m' hok,by simp[Ne.symm hk],rfl,rfl,Yc h20,?_,?_,by simp,fun b hb=>?_,rfl,rfl,fun j b o hb ho=>?_⟩
 ·intro i b o hb ho;cases i with
  | zero=>cases hb;cases ho;exact⟨_,h20,rfl,rfl,rfl⟩
  | succ i=>cases i with
   | zero=>cases hb;cases ho;exact⟨_,hr,rfl,rfl,rfl⟩
   | succ i=>cases hb
 ·intro o T ho;cases ho;exact id
 ·rw[Q4]at hb;subst hb;exact⟨hz,by simp;exact⟨by omega,hzk⟩⟩
 ·cases j with
  | zero=>cases hb;cases ho;exact⟨_,rfl,hg⟩
  | succ j=>cases hb
def Ij (m:AS) (o k:Int):Bool:=decide (o < 0)||decide (k < 0)||decide (k > m.b.length)||decide (o > m.b.length - k)
def Us (m:AS) (o k:Int):Ad:=(m.b.drop o.toNat).take k.toNat
def Ud:Gk:=fun s rest os=>match s,rest,os with
 | .CJ m,[.int .i64 o,.int .i64 k],[]=> .test (Ij m o k) (.ret ⟨.tuple ⟨[.slice none 0 0,int 3]⟩,.CJ m,[]⟩) (.ret ⟨.tuple ⟨[Ao 21 (Us m o k).length,int 0]⟩,.CJ m,[.vec kB (Us m o k) false]⟩)
 | _,_,_=> .fail
theorem Jy {a:Int} (h1: -100000<=a) (h2:a<=100000):IntKind.wrap .i64 a=a:=wrap64 (by omega) (by omega)
theorem Ia {b n:Nat} (hb:b<=64) (hn:n<=1000000):BQ b n=true:=by
 unfold BQ;simp only[Dg];refine⟨Ez ?_,Ez (by omega)⟩;exact wQ (Nat.mul_le_mul (show 2 * n+192<=2000192 by omega) hb) (by decide)
theorem wB {m:AS} (hm:ED m) {o k:Int} (hb:Ij m o k=false):CU XB (Ax cB) [] Bs [20,21] 21 (fun v os=>v= .tuple ⟨[Ao 22 (Us m o k).length,int 0]⟩/\os=[some (cr m 21),some (.vec kB m.b false),some (.vec kB (Us m o k) false)]) 200 (st Bs [At 20,.int .i64 o,.int .i64 k] (Xd m)):=by
 unfold Ij at hb;simp only[xp,kV]at hb;obtain⟨⟨⟨b1,b2⟩,b3⟩,b4⟩:=hb;have:=hm.len;have:=hm.eo;have hl:(Us m o k).length=k.toNat:=by unfold Us;rw[Rg,Tx];omega
 have e1:IntKind.wrap .i64 (Int.ofNat m.b.length - k)=(m.b.length:Int) - k:=Jy (by show(_:Int)<=(m.b.length:Int) - k;omega) (by show(m.b.length:Int) - k<=_;omega);have e2:IntKind.wrap .i64 (o+k)=o+k:=Jy (by omega) (by omega);have e3:(o+k).toNat - o.toNat=k.toNat:=by omega
 rw[Sv];(conv=>zeta);rw[e1,e2,e3,hl,RP]
 refine AB (KE hm.pos) (AY (fun h=>absurd h b1) fun _=>AY (fun h=>absurd h b2) fun _=>AY (fun h=>absurd h b3) fun _=>AY (fun h=>absurd h b4) fun _=>AB ?_ ⟨⟨by omega,Ia (by decide) (by omega)⟩,rfl,rfl⟩);simp only[Dg,TL];refine⟨⟨⟨⟨⟨⟨by omega,Ez (by omega)⟩,Ez ?_⟩,by omega⟩,Ez (GO _)⟩,by omega⟩,Ez (by omega)⟩;rw[Dh];omega
theorem Zi:CY Tryz.prog AI Bs (Ai AI 20 [true] (CX 20 Ud)):=by
 refine Ek okB.all (by kernel_rfl) (by kernel_rfl) (n:=BD Bs) (by kernel_rfl) (fun _=>rfl) fun s rest os=>?_
 unfold Ud;split
 ·rename_i m o k;refine⟨fun hb=>⟨BE (by kernel_rfl),fun objs hr=>?_⟩,fun hb=>⟨BE (by kernel_rfl),fun objs hr=>?_⟩⟩
  ·obtain⟨h1,h2⟩:=Pc m objs hr;have hv:CU XB (Ax cB) [] Bs [20,21] 21 (p6 (.tuple ⟨[.slice none 0 0,int 3]⟩) m 21) 200 (st Bs [At 20,.int .i64 o,.int .i64 k] (Xd m)):=by
    have:=h1.len;have:=h1.eo;unfold Ij at hb;rw[Sv];refine AB (KE h1.pos) (AY (fun h=>KQ m _ _) fun n1=>AY (fun h=>KQ m _ _) fun n2=>AY (fun h=>KQ m _ _) fun n3=>AY (fun h=>KQ m _ _) fun n4=>?_);exfalso;have n3:¬k > (m.b.length:Int):=n3;have e1:IntKind.wrap .i64 (Int.ofNat m.b.length - k)=(m.b.length:Int) - k:=Jy (by show(_:Int)<=(m.b.length:Int) - k;omega) (by show(m.b.length:Int) - k<=_;omega);rw[e1]at n4;simp[n1,n2,n3,n4]at hb
   refine⟨_,h2,Ak.mono (AX.Fh (BK okB.pf (by kernel_rfl) hv)) fun v H hQ=>?_⟩;obtain⟨rfl,y,g1,g2⟩:=hQ.at (by decide);exact Up ⟨GO _,by decide⟩ h1 g1 g2 rfl
  ·obtain⟨h1,h2⟩:=Pc m objs hr;refine⟨_,h2,Ak.mono (AX.Fh (BK okB.pf (by kernel_rfl) (wB h1 hb))) fun v H hQ=>?_⟩;obtain⟨rfl,ho⟩:=hQ;have ho:[H.get 20,H.get 21,H.get 22]=_:=ho;simp only[Nh,iy]at ho;exact .here (mG (k:=21) h1 (by decide) (by decide) (by decide) ho.1 ho.2.1 ho.2.2)
 ·trivial
theorem Vp (m:AS) (l:Ad) (ro:Bool) (objs:BN) (hr:Bx (.CJ m) objs):ED m/\FB (DH ⟨.leaf,20⟩ (.abs (.pack (.CJ m)) false::EH [true] 1 [.vec kB l ro])) 20 false objs (hp [cr m 22,.vec kB l true,.vec kB m.b false]) []:=by
 cases hr with
 | CJ _ h=>
  refine⟨h,?_⟩;have:=GJ (N:=20) (s:= .CJ m) (os:=[.vec kB l true]) (o:= .cells [.slice (some ⟨1,0,some 0⟩) m.b.length cU,.int .i64 m.size,.int .i64 m.Ej] 0 false) (o1:=cr m 22) (ps:=[.vec kB m.b false]) (ps1:=[.vec kB m.b false]) rfl rfl (fun i p hp=>by
   cases i with
   | zero=>cases hp;exact⟨_,rfl,rfl⟩
   | succ i=>cases i<;>cases hp)
  have e:D7 ((DH ⟨.leaf,20⟩ [.abs (.pack (.CJ m)) false,.vec kB l true]).put 20 (cr m 22)) [.vec kB m.b false]=hp [cr m 22,.vec kB l true,.vec kB m.b false]:=by kernel_rfl
  rw[e]at this;exact this
def FP (m:AS) (l:Ad):AS:=⟨m.size,m.Ej,m.b++l⟩
def YE:Gk:=fun s rest os=>match s,rest,os with
 | .CJ m,[.slice (some ⟨21,0,some 0⟩) n 18446744073709551616],[.vec [.int .u8] l _]=> .ask (n<=l.length) (.test (decide ((n:Int) > m.size - m.b.length)) (.ret ⟨int 4,.CJ m,[]⟩) (.ret ⟨int 0,.CJ (FP m (l.take n)),[]⟩))
 | _,_,_=> .fail
theorem bx:CY Tryz.prog AI Be (Ai AI 20 [true] (CX 20 YE)):=by
 refine Ek (CO.nil _ _) (by kernel_rfl) (by kernel_rfl) (n:=BD Be) (by kernel_rfl) (fun _=>rfl) fun s rest os=>?_
 unfold YE;split
 ·rename_i m n l ro;intro hn;have hw:ED m->IntKind.wrap .i64 (m.size - Int.ofNat m.b.length)=m.size - (m.b.length:Int):=fun h=>by
   have:=h.len;have:=h.eo;exact Jy (by show(_:Int)<=m.size - (m.b.length:Int);omega) (by show m.size - (m.b.length:Int)<=_;omega)
  refine⟨fun hb=>⟨BE (by kernel_rfl),fun objs hr=>?_⟩,fun hb=>⟨BE (by kernel_rfl),fun objs hr=>?_⟩⟩
  ·obtain⟨h1,h2⟩:=Vp m l ro objs hr;have hv:CU X0 Cz [] Be [20,22,23] 22 (p6 (int 4) m 22) 200 (st Be [At 20,Ao 21 n] (hp [cr m 22,.vec kB l true,.vec kB m.b false])):=by
    rw[Wz];(conv=>zeta);rw[hw h1]
    exact AB (KE h1.pos) (AB hb ⟨rfl,_,_,_,rfl,.row m.b rfl qs⟩)
   refine⟨_,h2,Ak.mono (AX.Fh (BK (CB _) (by kernel_rfl) hv)) fun v H hQ=>?_⟩;obtain⟨rfl,y,g1,g2⟩:=hQ.at (by decide);exact Up ⟨GO _,by simp⟩ h1 g1 g2 rfl
  ·obtain⟨h1,h2⟩:=Vp m l ro objs hr;have hb:¬(n:Int) > m.size - m.b.length:=by simpa using hb
   have:=h1.len;have:=h1.eo;have hlen:(m.b++l.take n).length=m.b.length+n:=by rw[Pq,Rg];omega
   have hv:CU X0 Cz [] Be [20,22,23] 22 (fun v os=>v=int 0/\∃o1 t,os=some (.cells [Ao 23 (FP m (l.take n)).b.length,int m.size,int m.Ej] 0 false)::o1::some (.vec kB (FP m (l.take n)).b false)::t) 200 (st Be [At 20,Ao 21 n] (hp [cr m 22,.vec kB l true,.vec kB m.b false])):=by
    rw[Wz];(conv=>zeta);rw[hw h1]
    refine AB (KE h1.pos) (AY (fun h=>absurd h hb) fun _=>AB ?_ ⟨rfl,none,[],?_⟩)
    ·simp only[Dg];refine⟨⟨Ez (by omega),Ez (by omega)⟩,?_⟩;unfold BQ;simp only[Dg];exact⟨Ez (by omega),Ez (by omega)⟩
    ·show _=[some (AP.cells [Ao 23 (m.b++l.take n).length,int m.size,int m.Ej] 0 false),none,some (.vec kB (m.b++l.take n) false)];rw[hlen,bl,qs,bl]<;>rfl
   refine⟨_,h2,Ak.mono (AX.Fh (BK (CB _) (by kernel_rfl) hv)) fun v H hQ=>?_⟩;obtain⟨rfl,o1,t,hQ⟩:=hQ;simp only[Sm,sK,ic,Nh]at hQ;obtain⟨g1,_,g2,_⟩:=hQ;have hok:ED (FP m (l.take n)):=by
    refine⟨h1.pos,h1.eo,?_,h1.d0,?_⟩
    ·show((m.b++l.take n).length:Int)<=m.size;rw[hlen];omega
    ·show m.Ej<=((m.b++l.take n).length:Int);rw[hlen];have:=h1.d1;omega
   exact .here (QY hok (k:=23) (by decide) g1 g2 rfl)
 ·trivial
theorem az {m':AS} {b0 k:Nat} {H:AA} (h0:H.get b0=some (.cells [Ao k m'.b.length,int m'.size,int m'.Ej] 0 false)) (hr:H.get k=some (.vec kB m'.b false)):
 ∀(i b:Nat) (o:AP),[b0,k][i]? = some b->[AP.cells [.slice (some ⟨1,0,some 0⟩) m'.b.length cU,.int .i64 m'.size,.int .i64 m'.Ej] 0 false,.vec [.int .u8] m'.b false][i]? = some o->∃o1,H.get b=some o1/\o1.ro=false/\o1.Kg=true/\BV (RQ [b0,k] []) o=some o1:=by
 intro i b o hb ho;cases i with
 | zero=>cases hb;cases ho;exact⟨_,h0,rfl,rfl,rfl⟩
 | succ i=>cases i with
  | zero=>cases hb;cases ho;exact⟨_,hr,rfl,rfl,rfl⟩
  | succ i=>cases hb
theorem Zl {Φ:Ih} {D:Nat->Prop} {v:Value} {H:AA} {b0 k:Nat} {m':AS} {y:Value} (hok:ED m') (hk:k≠b0) (h0:H.get b0=some (.cells [y,int m'.size,int m'.Ej] 0 false)) (hx:Uj k (H.get k) m'.b y) (hA:b0∈Au 4 v∨D b0)
 (next:∀H2:AA,(∀x o,x≠b0->x≠k->H.get x=some o->H2.get x=some o)->H2.get b0=some (.abs (.pack (.CJ m')) false)->Told D Φ v H2):Told D Φ v H:=by
 have go:∀(H1:AA) (k1:Nat),k1≠b0->H1.get b0=some (.cells [Ao k1 m'.b.length,int m'.size,int m'.Ej] 0 false)->H1.get k1=some (.vec kB m'.b false)->(∀x o,x≠b0->x≠k->H.get x=some o->x≠k1/\H1.get x=some o)->Told D Φ v H1:=by
  intro H1 k1 hk1 g1 g2 g3;have hnd:[b0,k1].Nodup:=by simp[Ne.symm hk1]
  have hS:=E2 (s:= .CJ m') (H:=H1) hnd;refine .shut (.CJ m') _ [b0,k1] [b0] (.CJ m' hok) (by simp) rfl hnd (fun b hb=>by rw[Q4]at hb;rw[hb];exact hA) (fun x hx=>?_) (az g1 g2) (fun o T ho=>by cases ho;exact id) (next _ (fun x o hx hxk ho=>?_) ?_)
  ·simp only[Ul,bG,vK]at hx;rcases hx with rfl | rfl
   ·exact .here (by simp)
   ·exact .next (.here (by simp)) g1 (by simp[IK,Au,Ao])
  ·obtain⟨e1,e2⟩:=g3 x o hx hxk ho;rw[hS.GK x (by simp[hx,e1])];exact e2
  ·exact hS.root b0 rfl
 cases hx with
 | row l' ho hl=>
  refine .SW k kB l' false m'.b.length ho (go _ k hk ?_ ?_ fun x o hx hxk hg=>⟨hxk,?_⟩)
  ·rw[Hg (gi hk)];exact h0
  ·rw[K2,hl]
  ·rw[Hg hxk];exact hg
 | nil h=>
  refine .U0 kB (by decide) b0 hA v (.val (.same v)) b0 _ _ 0 false h0 (.cons .nil (Vd.refl _ _)) fun hlt=>go _ H.next ?_ ?_ ?_ fun x o hx hxk hg=>⟨ABq (hlt _ _ hg),?_⟩
  ·exact gi (ABq (hlt _ _ h0))
  ·rw[K2,h];rfl
  ·rw[Hg (gi (ABq (hlt _ _ h0))),LB,h]
  ·rw[Hg hx,TA (ABq (hlt _ _ hg))];exact hg
 | emp b o h=>
  refine .U0 kB (by decide) b0 hA v (.val (.same v)) b0 _ _ 0 false h0 (.cons (.emp b o) (Vd.refl _ _)) fun hlt=>go _ H.next ?_ ?_ ?_ fun x o hx hxk hg=>⟨ABq (hlt _ _ hg),?_⟩
  ·exact gi (ABq (hlt _ _ h0))
  ·rw[K2,h];rfl
  ·rw[Hg (gi (ABq (hlt _ _ h0))),LB,h]
  ·rw[Hg hx,TA (ABq (hlt _ _ hg))];exact hg
def Ui:Gk:=fun s rest os=>match s,rest,os with
 | .CJ m,[],[]=> .ret ⟨At 21,.CJ m,[.abs (.pack (.CJ m)) false]⟩
 | _,_,_=> .fail
def OL (args:AL) (objs:BN):GT:=
 match args,objs with
 | [.int .i64 n],[]=> .test (decide (n < 1)||decide (n > 8192)) (.ret ⟨.tuple ⟨[.pointer none,int 2]⟩,[],[]⟩) (.ret ⟨.tuple ⟨[At 20,int 0]⟩,[],[.abs (.pack (.CJ ⟨n,0,[]⟩)) false]⟩)
 | _,_=> .fail
theorem TO:CY Tryz.prog AI DJ (Ai AI 20 [] OL):=by
 refine BF (CO.nil _ _) (by kernel_rfl) (n:=BD DJ) (by kernel_rfl) (by kernel_rfl) fun argsc objs x hx hro=>?_
 clear hro;unfold OL at hx;split at hx
 ·rename_i n;refine⟨BE (by kernel_rfl),Ak.OE ?_⟩;cases hb:(decide (n < 1)||decide (n > 8192))
  ·simp only[GT.run,hb,EB]at hx;cases hx
   simp only[xp,kV]at hb;have hv:CU X0 Cz [] DJ [] 20 (fun v os=>v= .tuple ⟨[At 20,int 0]⟩/\os=[some (.cells [.slice none 0 0,int n,int 0] 0 false)]) 200 (st DJ [.int .i64 n] (hp [])):=by
    rw[XL];exact AY (fun h=>absurd h hb.1) fun _=>AY (fun h=>absurd h hb.2) fun _=>⟨rfl,rfl⟩
   refine Ak.mono (AX.Fh (BK (CB _) (by kernel_rfl) hv)) fun v H hQ=>?_
   obtain⟨rfl,hQ⟩:=hQ;have hQ:[H.get 20]=_:=hQ;simp only[Nh,iy]at hQ;refine Zl (m':=⟨n,0,[]⟩) (k:=21) ⟨by show(0:Int) < n;omega,by show n<=8192;omega,by show(0:Int)<=n;omega,AAm _,AAm _⟩ (by decide) hQ (.nil rfl) (.inl (by simp[Au,At])) fun H2 _ h20=> .here ?_
   refine⟨[20],by simp,fun b hb=>by rw[Q4]at hb;rw[hb];exact GO _,rfl,rfl,fun j b o hb ho=>?_,fun j o hj=>(by cases hj)⟩;cases j with
   | zero=>cases hb;cases ho;exact⟨_,rfl,h20⟩
   | succ j=>cases hb
  ·simp only[GT.run,hb,C8]at hx;cases hx
   have hv:CU X0 Cz [] DJ [] 20 (fun v _=>v= .tuple ⟨[.pointer none,int 2]⟩) 200 (st DJ [.int .i64 n] (hp [])):=by
    rw[XL];(conv=>zeta)
    simp only[vZ,TL]at hb;exact AY (fun _=>rfl) fun h1=>AY (fun _=>rfl) fun h2=>absurd hb (by omega)
   refine Ak.mono (AX.Fh (BK (CB _) (by kernel_rfl) hv)) fun v H hQ=> .here ?_
   have hQ:v=_:=hQ;subst hQ;exact⟨[],dG,fun b hb=>(by cases hb),rfl,rfl,fun j b o hj=>(by cases hj),fun j o hj=>(by cases hj)⟩
 ·cases hx
def wJ:Value:= .func (.func N4) ⟨[]⟩ ⟨[]⟩
def vJ (l:Ad) (n:Nat) (d:Int):BT:=
 ⟨⟨A4,EZ [(0,Ao 20 n),(1,wJ),(6,Ao 20 n),(7,int n),(8,int d)],BD A4,[.code (A9 Tryz.prog A4 [1,0,1,0,0]),.inLoop (A9 Tryz.prog A4 [1,0,1,0,0]),.inBlock 0,.code (A9 Tryz.prog A4 [1,1])],[],false,.normal,none⟩,[],hp [.vec kI l true]⟩
def w8:Stop:=⟨A4,0,3,21,[20],[0,1,6,7,8]⟩
theorem rA (l:Ad) (n:Nat) (Q:Bm) (R:Bz):Iy X0 Cz [] A4 [] w8 [] Q R 100 (st A4 [Ao 20 n,wJ] (hp [.vec kI l true]))=(
 (R (vJ l n 0))):=by kernel_rfl
theorem pL (l:Ad) (n:Nat) (d:Int) (Q:Bm) (R:Bz):Iy X0 Cz [] A4 [] w8 [] Q R 100 (vJ l n d)=(
 (bif decide (d < (n:Int))then(bif decide (0<=d)&&Nat.blt d.toNat n then(bif Nat.blt (0+d.toNat) l.length then(bif decide (List.getD l (0+d.toNat) (EK.BL kI)≥0)then(bif decide (List.getD l (0+d.toNat) (EK.BL kI)<=8192)then(R (vJ l n (IntKind.wrap .i64 (d+1))))else(Q (int d) []))else(Q (int d) []))else False)else False)else(Q (int (-1)) []))):=by kernel_rfl
def I0 (x:Int):Bool:=decide (0<=x)&&decide (x<=8192)
def Hs:Ad->Nat->Int
 | [],_=> -1
 | x::l,i=>bif I0 x then Hs l (i+1)else i
theorem Rk {l:Ad} {i:Nat} (h:i < l.length):Hs (l.drop i) i=bif I0 (l.getD i 0)then Hs (l.drop (i+1)) (i+1)else(i:Int):=by
 rw[uP h,Hs,Kd,Jj h];rfl
theorem LI:∀(l:Ad) (i:Nat),(Hs l i= -1 ↔ l.all I0=true)/\ -1<=Hs l i
 | [],_=>⟨by simp[Hs],by simp[Hs]⟩
 | x::l,i=>by
  have ih:=LI l (i+1);unfold Hs;cases h:I0 x
  ·simp only[EB,lf,h,AA2];exact⟨⟨fun h=>by omega,fun h=>by cases h⟩,by omega⟩
  ·simp only[C8,lf,h,AAM];exact ih
theorem pF {l:Ad} {n:Nat} (hn:n=l.length) (hs:n < 1000):∀(q i:Nat),n - i=q->i<=n->AX X0 21 A4 (fun v _=>v=int (Hs (l.drop i) i)) (vJ l n i):=by
 intro q;induction q with
 | zero=>
  intro i hq hi;obtain rfl:i=n:=by omega
  refine Bq (CB X0) [] [] w8 [] (by kernel_rfl) (GO _) (fun v _=>v=int (Hs (l.drop i) i)) (fun _=>False) (fun v H h=>h) (fun c h=>h.elim) (n:=100) ?_;rw[pL];refine AY (fun h=>absurd h (by omega)) fun _=>?_
  rw[ur (by omega)];rfl
 | succ q ih=>
  intro i hq hi;have hlt:i < n:=by omega
  refine Bq (CB X0) [] [] w8 [] (by kernel_rfl) (GO _) (fun v _=>v=int (Hs (l.drop i) i)) (fun c=>I0 (l.getD i 0)=true/\c=vJ l n (i+1:Nat)) (fun v H h=>h) (fun c h=>?_) (n:=100) ?_
  ·obtain⟨h1,rfl⟩:=h;rw[Rk (by omega),h1];exact ih (i+1) (by omega) (by omega)
  ·rw[pL,Rk (by omega)];have e1:IntKind.wrap .i64 ((i:Int)+1)=((i+1:Nat):Int):=by rw[wrap64 (by omega) (by omega)];rfl
   have e2:l.getD (0+Int.toNat (i:Int)) (EK.BL kI)=l.getD i 0:=by rw[RP,MG];rfl
   rw[e1,e2];refine AY (fun _=>AB ?_ (AB ?_ ?_)) fun h=>absurd (show(i:Int) < (n:Int) by omega) h
   ·simp only[MG,Dg,TL];exact⟨by omega,Ez hlt⟩
   ·rw[RP,MG];exact Ez (by omega)
   ·refine AY (fun h1=>AY (fun h2=>?_) fun h2=>?_) fun h1=>?_
    ·have:I0 (l.getD i 0)=true:=by unfold I0;simp only[Dg,TL];exact⟨h1,h2⟩
     exact⟨this,rfl⟩
    ·have:I0 (l.getD i 0)=false:=by unfold I0;simp only[wL,kV];exact .inr h2
     rw[this];rfl
    ·have:I0 (l.getD i 0)=false:=by unfold I0;simp only[wL,kV];exact .inl h1
     rw[this];rfl
def yT (args:AL) (objs:BN):GT:=
 match args,objs with
 | [.slice (some ⟨20,0,some 0⟩) n 18446744073709551616,.func (.func 192) ⟨[]⟩ ⟨[]⟩],[.vec [.int .i64] l _]=> .ask (n=l.length/\n < 1000) (.ret ⟨int (Hs l 0),[],[]⟩)
 | _,_=> .fail
theorem sI:CY Tryz.prog AI A4 (Ai AI 20 [] yT):=by
 refine BF (CO.nil _ _) (by kernel_rfl) (n:=BD A4) (by kernel_rfl) (by kernel_rfl) fun argsc objs x hx hro=>?_
 clear hro;unfold yT at hx;split at hx
 ·rename_i n l ro;simp only[GT.run]at hx;split at hx
  ·rename_i hp;cases hx
   refine⟨BE (by kernel_rfl),Ak.mono (Q:=fun v _=>v=int (Hs l 0)) (AX.Fh ?_) fun v H hv=>?_⟩
   ·refine Bq (CB X0) [] [] w8 [] (by kernel_rfl) (GO _) (fun _ _=>False) (fun c=>c=vJ l n 0) (fun v H h=>h.elim) (fun c h=>?_) (n:=100) ?_
    ·rw[h];have:=pF hp.1 hp.2 n 0 (by omega) (by omega);rw[bl]at this;exact this
    ·exact(rA l n _ _).symm ▸ rfl
   ·subst hv;exact⟨[],dG,fun b hb=>(by cases hb),rfl,rfl,fun j b o hj=>(by cases hj),fun j o hj hm ho=>(by cases hm)⟩
  ·cases hx
 ·cases hx
def cI:List GA:=[GQ A4 [] yT]
abbrev XI:Ctx:=Bp Tryz.prog AI (Cv cI)
def od (a:Int) (d:Bool) (r n:Nat):Value:= .agg ⟨[int a,.bool d,Ao r n]⟩
theorem tz (a:Int) (d:Bool) (l:Ad) (n:Nat) (Q:Bm):CU XI (Ax cI) [] Dt [] 21 Q 100 (st Dt [od a d 20 n] (hp [.vec kI l true]))=(
 let b:Prop:=Q (int 2) [];(bif decide (a≥0)then(bif decide (a<=1000000)then(bif decide (IntKind.wrap .i64 (Int.ofNat n - 1)≥0)then(bif decide (IntKind.wrap .i64 (Int.ofNat n - 1)<=33)then(n=l.length/\n < 1000)/\(bif decide (Hs l 0≥0)then b else(Q (int 0) []))else b)else b)else b)else b)):=by kernel_rfl
theorem yq:Ci cI:= .cons sI .nil
def FF (a:Int) (l:Ad):Bool:=decide (0<=a)&&decide (a<=1000000)&&decide (1<=l.length)&&decide (l.length<=34)&&l.all I0
def Mi (a:Int) (l:Ad):Int:=bif FF a l then 0 else 2
def rK (args:AL) (objs:BN):GT:=
 match args,objs with
 | [.agg ⟨[.int .i64 a,.bool _,.slice (some ⟨20,0,some 0⟩) n 18446744073709551616]⟩],[.vec [.int .i64] l _]=> .ask (n=l.length/\n < 1000) (.ret ⟨int (Mi a l),[],[]⟩)
 | _,_=> .fail
theorem mE:CY Tryz.prog AI Dt (Ai AI 20 [] rK):=by
 refine BF yq.all (by kernel_rfl) (n:=BD Dt) (by kernel_rfl) (by kernel_rfl) fun argsc objs x hx hro=>?_
 clear hro;unfold rK at hx;split at hx
 ·rename_i a d n l ro;simp only[GT.run]at hx;split at hx
  ·rename_i hp0;cases hx
   obtain⟨rfl,hn⟩:=hp0;have hw:IntKind.wrap .i64 (Int.ofNat l.length - 1)=(l.length:Int) - 1:=Jy (by show(_:Int)<=(l.length:Int) - 1;omega) (by show(l.length:Int) - 1<=_;omega);have hv:CU XI (Ax cI) [] Dt [] 21 (fun v _=>v=int (Mi a l)) 100 (st Dt [od a d 20 l.length] (hp [.vec kI l true])):=by
    rw[tz];(conv=>zeta);rw[hw]
    have e0:FF a l=false->(int 2:Value)=int (Mi a l):=fun h=>by unfold Mi;rw[h];rfl
    refine AY (fun h1=>AY (fun h2=>AY (fun h3=>AY (fun h4=>⟨⟨rfl,hn⟩,AY (fun h5=>e0 ?_) fun h5=>?_⟩) fun h4=>e0 ?_) fun h3=>e0 ?_) fun h2=>e0 ?_) fun h1=>e0 ?_
    ·have:l.all I0=false:=by
      cases h:l.all I0
      ·rfl
      ·have:=(LI l 0).1.2 h;omega
     unfold FF;rw[this];simp
    ·have h6:=(LI l 0).2;have:l.all I0=true:=(LI l 0).1.1 (by omega);have e:FF a l=true:=by unfold FF;rw[this];simp only[Dg,TL,iy];omega
     unfold Mi;rw[e];rfl
    all_goals
     unfold FF;simp only[wL,kV];omega
   refine⟨BE (by kernel_rfl),Ak.mono (AX.Fh (BK yq.pf (by kernel_rfl) hv)) fun v H hq=>?_⟩;have hq:v=_:=hq;subst hq;exact⟨[],dG,fun b hb=>(by cases hb),rfl,rfl,fun j b o hj=>(by cases hj),fun j o hj hm ho=>(by cases hm)⟩
  ·cases hx
 ·cases hx
def cC:List GA:=[GQ Dt [] rK,GQ Hp [] (SN kI 8)]
abbrev XC:Ctx:=Bp Tryz.prog AI (Cv cC)
def Ph:AP:= .cells [.bool true,.pointer none] 0 false
def O1 (r:Nat):AP:= .cells [.bool true,At r] 0 false
def Xe (p:BP) (r:Nat):AP:= .cells [int p.at_,.bool p.done,Ao r p.Av.length] 0 false
def si (p:BP):AA:=hp [O1 21,Xe p 22,.vec kI p.Av false]
theorem gG (Q:Bm):CU XC (Ax cC) [] BM [20] 21 Q 100 (st BM [At 20] (hp [Ph]))=(
 (Q (.bool false) [some (.cells [(.bool true),(.pointer none)] 0 false)])):=by kernel_rfl
theorem XT (p:BP) (Q:Bm):CU XC (Ax cC) [] BM [20,21,22] 21 Q 100 (st BM [At 20] (si p))=(
 let b:=BP.Av p;let a:AP:= .cells [(int (IntKind.wrap .i64 (BP.at_ p - 1))),(.bool (BP.done p)),(Ao 22 b.length)] 0 false;(bif decide (IntKind.wrap .i64 (BP.at_ p - 1) > 0)then(Q (.bool false) [some (.cells [(.bool true),(At 21)] 0 false),some a,some (.vec kI b false)])else(Q (.bool true) [some (.cells [(.bool true),(.pointer none)] 0 false),some a,some (.vec kI b false)]))):=by kernel_rfl
theorem lE (Q:Bm):CU XC (Ax cC) [] BY [20] 21 Q 100 (st BY [At 20] (hp [Ph]))=(
 (Q (.tuple ⟨[(.agg ⟨[(int 0),(.bool false),(.slice none 0 0)]⟩),(.bool false)]⟩) [some (.cells [(.bool true),(.pointer none)] 0 false)])):=by kernel_rfl
theorem fl (p:BP) (Q:Bm):CU XC (Ax cC) [] BY [20,21,22] 21 Q 200 (st BY [At 20] (si p))=(
 let b:=int (BP.at_ p);let a:=BP.Av p;(0+a.length<=a.length/\BQ 8 a.length=true)/\(Q (.tuple ⟨[(.agg ⟨[b,(.bool (BP.done p)),(Ao 26 a.length)]⟩),(.bool true)]⟩) [some (.cells [(.bool true),(At 21)] 0 false),some (.cells [b,(.bool (BP.done p)),(Ao 22 a.length)] 0 false),some (.vec kI a false),some (.vec ([SK.int IntKind.i64]) (List.take a.length (List.drop 0 a)) false)])):=by kernel_rfl
theorem nQ (a:Int) (d:Bool) (l:Ad) (n:Nat) (Q:Bm):CU XC (Ax cC) [] Bd [20,22,25] 22 Q 200 (st Bd [At 20,od a d 21 n] (hp [Ph,.vec kI l true]))=(
 let c:AP:= .cells [(.bool true),(.pointer none)] 0 false;let b:AP:= .cells [(int a),(.bool d),(Ao 21 n)] 0 false;(n=l.length/\n < 1000)/\(bif Mi a l != 0 then(Q (int (Mi a l)) [some c,some b,none])else(bif decide (a > 0)then(0+n<=l.length/\BQ 8 n=true)/\(Q (int 0) [some (.cells [(.bool true),(At 22)] 0 false),some (.cells [(int a),(.bool d),(Ao 25 n)] 0 false),some (.vec ([SK.int IntKind.i64]) (List.take n (List.drop 0 l)) false)])else(Q (int 0) [some c,some b,none])))):=by kernel_rfl
theorem pB (p:BP) (a:Int) (d:Bool) (l:Ad) (n:Nat) (Q:Bm):CU XC (Ax cC) [] Bd [20,22,23,24,27] 22 Q 200 (st Bd [At 20,od a d 21 n] (hp [O1 22,.vec kI l true,Xe p 23,.vec kI p.Av false]))=(
 let e:AP:= .cells [(int a),(.bool d),(Ao 21 n)] 0 false;let c:AP:= .vec kI (BP.Av p) false;let b:AP:= .cells [(int (BP.at_ p)),(.bool (BP.done p)),(Ao 23 (BP.Av p).length)] 0 false;(n=l.length/\n < 1000)/\(bif Mi a l != 0 then(Q (int (Mi a l)) [some (.cells [(.bool true),(At 22)] 0 false),some b,some c,some e,none])else(bif decide (a > 0)then(0+n<=l.length/\BQ 8 n=true)/\(Q (int 0) [some (.cells [(.bool true),(At 24)] 0 false),some b,some c,some (.cells [(int a),(.bool d),(Ao 27 n)] 0 false),some (.vec ([SK.int IntKind.i64]) (List.take n (List.drop 0 l)) false)])else(Q (int 0) [some (.cells [(.bool true),(.pointer none)] 0 false),some b,some c,some e,none])))):=by kernel_rfl
theorem nO (Q:Bm):CU XC (Ax cC) [] E1 [] 20 Q 100 (st E1 [] (hp []))=(
 (Q (At 20) [some (.cells [(.bool true),(.pointer none)] 0 false)])):=by kernel_rfl
theorem Xb:Ci cC:= .cons mE (.cons gD .nil)
theorem XP (objs:BN) (hr:Bx (.timer none) objs):FB (DH ⟨.leaf,20⟩ [.abs (.pack (.timer none)) false]) 20 false objs (hp [Ph]) []:=by
 cases hr with
 | Zd=>
  have:=GJ (N:=20) (s:= .timer none) (os:=[]) (o:=Ph) (o1:=Ph) (ps:=[]) (ps1:=[]) rfl rfl (fun i p hp=>by cases hp);have e:D7 ((DH ⟨.leaf,20⟩ [.abs (.pack (.timer none)) false]).put 20 Ph) []=hp [Ph]:=by kernel_rfl
  rw[e]at this;exact this
theorem cM (l:Ad) (ro:Bool) (objs:BN) (hr:Bx (.timer none) objs):FB (DH ⟨.leaf,20⟩ (.abs (.pack (.timer none)) false::EH [true] 1 [.vec kI l ro])) 20 false objs (hp [Ph,.vec kI l true]) []:=by
 cases hr with
 | Zd=>
  have:=GJ (N:=20) (s:= .timer none) (os:=[.vec kI l true]) (o:=Ph) (o1:=Ph) (ps:=[]) (ps1:=[]) rfl rfl (fun i p hp=>by cases hp);have e:D7 ((DH ⟨.leaf,20⟩ [.abs (.pack (.timer none)) false,.vec kI l true]).put 20 Ph) []=hp [Ph,.vec kI l true]:=by kernel_rfl
  rw[e]at this;exact this
theorem two {o1 o2:AP} {p1 p2:AP} {ρ:Ren} (h1:BV ρ o1=some p1) (h2:BV ρ o2=some p2):∀(i:Nat) (p:AP),[o1,o2][i]? = some p->∃q,[p1,p2][i]? = some q/\BV ρ p=some q:=by
 intro i p hp;cases i with
 | zero=>cases hp;exact⟨_,rfl,h1⟩
 | succ i=>cases i with
  | zero=>cases hp;exact⟨_,rfl,h2⟩
  | succ i=>cases hp
theorem QR (p:BP) (objs:BN) (hr:Bx (.timer (some p)) objs):IV p/\FB (DH ⟨.leaf,20⟩ [.abs (.pack (.timer (some p))) false]) 20 false objs (si p) []:=by
 cases hr with
 | ZL _ h=>
  refine⟨h,?_⟩;have:=GJ (N:=20) (s:= .timer (some p)) (os:=[]) (o:= .cells [.bool true,.pointer (some ⟨1,0,none⟩)] 0 false) (o1:=O1 21) (ps:=[.cells [.int .i64 p.at_,.bool p.done,.slice (some ⟨2,0,some 0⟩) p.Av.length cU] 0 false,.vec kI p.Av false]) (ps1:=[Xe p 22,.vec kI p.Av false]) rfl rfl (two rfl rfl);have e:D7 ((DH ⟨.leaf,20⟩ [.abs (.pack (.timer (some p))) false]).put 20 (O1 21)) [Xe p 22,.vec kI p.Av false]=si p:=by kernel_rfl
  rw[e]at this;exact this
theorem eD (p:BP) (l:Ad) (ro:Bool) (objs:BN) (hr:Bx (.timer (some p)) objs):IV p/\FB (DH ⟨.leaf,20⟩ (.abs (.pack (.timer (some p))) false::EH [true] 1 [.vec kI l ro])) 20 false objs (hp [O1 22,.vec kI l true,Xe p 23,.vec kI p.Av false]) []:=by
 cases hr with
 | ZL _ h=>
  refine⟨h,?_⟩;have:=GJ (N:=20) (s:= .timer (some p)) (os:=[.vec kI l true]) (o:= .cells [.bool true,.pointer (some ⟨1,0,none⟩)] 0 false) (o1:=O1 22) (ps:=[.cells [.int .i64 p.at_,.bool p.done,.slice (some ⟨2,0,some 0⟩) p.Av.length cU] 0 false,.vec kI p.Av false]) (ps1:=[Xe p 23,.vec kI p.Av false]) rfl rfl (two rfl rfl);have e:D7 ((DH ⟨.leaf,20⟩ [.abs (.pack (.timer (some p))) false,.vec kI l true]).put 20 (O1 22)) [Xe p 23,.vec kI p.Av false]=hp [O1 22,.vec kI l true,Xe p 23,.vec kI p.Av false]:=by kernel_rfl
  rw[e]at this;exact this
def pE (b0:Nat) (q:Option BP) (bs:AW) (H:AA):Prop:=match q with
 | none=>bs=[b0]/\H.get b0=some Ph
 | some p=>∃r k,bs=[b0,r,k]/\[b0,r,k].Nodup/\H.get b0=some (O1 r)/\H.get r=some (Xe p k)/\H.get k=some (.vec kI p.Av false)
def bj (q:Option BP):Prop:=∀p,q=some p->IV p
theorem RG {b0:Nat} {q:Option BP} {bs:AW} {H:AA} (hok:bj q) (h:pE b0 q bs H):∃objs,Bx (.timer q) objs/\bs[0]? = some b0/\bs.Nodup/\(∀b∈bs,JW H [b0] b)/\Ft bs H bs objs/\(∀o T,objs[0]? = some o->¬o.void T):=by
 cases q with
 | none=>
  obtain⟨rfl,h⟩:=h;exact⟨_,.Zd,rfl,by simp,fun b hb=> .here (by simpa using hb),⟨⟨_,h,rfl,rfl,rfl⟩,trivial⟩,fun o T ho=>by cases ho;exact id⟩
 | some p=>
  obtain⟨r,k,rfl,hnd,h1,h2,h3⟩:=h;refine⟨_,.ZL p (hok p rfl),rfl,hnd,fun b hb=>?_,⟨⟨_,h1,rfl,rfl,rfl⟩,⟨_,h2,rfl,rfl,rfl⟩,⟨_,h3,rfl,rfl,rfl⟩,trivial⟩,fun o T ho=>by cases ho;exact id⟩;have g1:JW H [b0] r:= .next (.here (by simp)) h1 (by simp[IK,Au,At,O1]);simp only[Ul,bG,vK]at hb;rcases hb with rfl | rfl | rfl
  ·exact .here (by simp)
  ·exact g1
  ·exact .next g1 h2 (by simp[IK,Au,Ao,Xe])
theorem Ry {j:Nat} {q:Option BP} {bs:AW} {H:AA} {v:Value} (hok:bj q) (h:pE 20 q bs H) (hv:Cu 6 v=true):HV AI 20 j (.timer q) v [] v H:=by
 obtain⟨objs,h1,h2,h3,h4,h5,h6⟩:=RG hok h;exact Sc bs [] h1 rfl h2 h3 h4 h5 h6 dG (fun b hb=>by cases hb) (J8 6 v hv) trivial
def kD:Gk:=fun s rest os=>match s,rest,os with
 | .timer none,[],[]=> .ret ⟨.bool false,.timer none,[]⟩
 | .timer (some p),[],[]=> .test (decide (1 < p.at_)) (.ret ⟨.bool false,.timer (some ⟨p.at_ - 1,p.done,p.Av⟩),[]⟩) (.ret ⟨.bool true,.timer none,[]⟩)
 | _,_,_=> .fail
theorem kZ:CY Tryz.prog AI BM (Ai AI 20 [true] (CX 20 kD)):=by
 refine Ek Xb.all (by kernel_rfl) (by kernel_rfl) (n:=BD BM) (by kernel_rfl) (fun _=>rfl) fun s rest os=>?_
 unfold kD;split
 ·refine⟨BE (by kernel_rfl),fun objs hr=>⟨_,XP objs hr,?_⟩⟩;have hv:CU XC (Ax cC) [] BM [20] 21 (fun v os=>v= .bool false/\os=[some Ph]) 100 (st BM [At 20] (hp [Ph])):=by rw[gG];exact⟨rfl,rfl⟩
  refine Ak.mono (AX.Fh (BK Xb.pf (by kernel_rfl) hv)) fun v H ⟨e,hq⟩=>?_
  subst e;have hq:[H.get 20]=_:=hq;simp only[Nh,iy]at hq;exact .here (Ry (q:=none) (fun p h=>by cases h) ⟨rfl,hq⟩ rfl)
 ·rename_i p;have hw:IV p->IntKind.wrap .i64 (p.at_ - 1)=p.at_ - 1:=fun h=>by
   have:=h.a0;have:=h.a1;exact wrap64 (by omega) (by omega)
  refine⟨fun hc=>⟨BE (by kernel_rfl),fun objs hr=>?_⟩,fun hc=>⟨BE (by kernel_rfl),fun objs hr=>?_⟩⟩
  ·obtain⟨h1,h2⟩:=QR p objs hr;have hc:1 < p.at_:=by simpa using hc
   refine⟨_,h2,?_⟩;have hv:CU XC (Ax cC) [] BM [20,21,22] 21 (fun v os=>v= .bool false/\os=[some (O1 21),some (Xe ⟨p.at_ - 1,p.done,p.Av⟩ 22),some (.vec kI p.Av false)]) 100 (st BM [At 20] (si p)):=by
    rw[XT];(conv=>zeta);rw[hw h1]
    exact AY (fun _=>⟨rfl,rfl⟩) fun h=>absurd (by omega) h
   refine Ak.mono (AX.Fh (BK Xb.pf (by kernel_rfl) hv)) fun v H ⟨e,hq⟩=>?_
   subst e;have hq:[H.get 20,H.get 21,H.get 22]=_:=hq;simp only[Nh,iy]at hq;refine .here (Ry (q:=some ⟨p.at_ - 1,p.done,p.Av⟩) (fun p' h=>?_) ⟨21,22,rfl,by decide,hq.1,hq.2.1,hq.2.2⟩ rfl);cases h
   exact⟨by show(0:Int) < p.at_ - 1;omega,by show p.at_ - 1<=1000000;have:=h1.a1;omega,h1.k0,h1.k1,h1.k2⟩
  ·obtain⟨h1,h2⟩:=QR p objs hr;have hc:¬1 < p.at_:=by simpa using hc
   refine⟨_,h2,?_⟩;have hv:CU XC (Ax cC) [] BM [20,21,22] 21 (fun v os=>v= .bool true/\∃t,os=some Ph::t) 100 (st BM [At 20] (si p)):=by
    rw[XT];(conv=>zeta);rw[hw h1]
    exact AY (fun h=>absurd h (by omega)) fun _=>⟨rfl,_,rfl⟩
   refine Ak.mono (AX.Fh (BK Xb.pf (by kernel_rfl) hv)) fun v H ⟨e,t,hq⟩=>?_
   subst e;have hq:H.get 20::_=_:=hq;simp only[Nh]at hq;exact .here (Ry (q:=none) (fun p h=>by cases h) ⟨rfl,hq.1⟩ rfl)
 ·trivial
theorem kK {p:BP} (h:IV p):0+p.Av.length<=p.Av.length/\BQ 8 p.Av.length=true:=by
 have:=h.k1;exact⟨by omega,Ia (by decide) (by omega)⟩
def ig:Gk:=fun s rest os=>match s,rest,os with
 | .timer none,[],[]=> .ret ⟨.tuple ⟨[.agg ⟨[int 0,.bool false,.slice none 0 0]⟩,.bool false]⟩,.timer none,[]⟩
 | .timer (some p),[],[]=> .ret ⟨.tuple ⟨[od p.at_ p.done 21 p.Av.length,.bool true]⟩,.timer (some p),[.vec kI p.Av false]⟩
 | _,_,_=> .fail
theorem fm:CY Tryz.prog AI BY (Ai AI 20 [true] (CX 20 ig)):=by
 refine Ek Xb.all (by kernel_rfl) (by kernel_rfl) (n:=BD BY) (by kernel_rfl) (fun _=>rfl) fun s rest os=>?_
 unfold ig;split
 ·refine⟨BE (by kernel_rfl),fun objs hr=>⟨_,XP objs hr,?_⟩⟩;have hv:CU XC (Ax cC) [] BY [20] 21 (fun v os=>v= .tuple ⟨[.agg ⟨[int 0,.bool false,.slice none 0 0]⟩,.bool false]⟩/\os=[some Ph]) 100 (st BY [At 20] (hp [Ph])):=by rw[lE];exact⟨rfl,rfl⟩
  refine Ak.mono (AX.Fh (BK Xb.pf (by kernel_rfl) hv)) fun v H ⟨e,hq⟩=>?_
  subst e;have hq:[H.get 20]=_:=hq;simp only[Nh,iy]at hq;exact .here (Ry (q:=none) (fun p h=>by cases h) ⟨rfl,hq⟩ rfl)
 ·rename_i p;refine⟨BE (by kernel_rfl),fun objs hr=>?_⟩;obtain⟨h1,h2⟩:=QR p objs hr;refine⟨_,h2,?_⟩;have hv:CU XC (Ax cC) [] BY [20,21,22] 21 (fun v os=>v= .tuple ⟨[od p.at_ p.done 26 p.Av.length,.bool true]⟩/\os=[some (O1 21),some (Xe p 22),some (.vec kI p.Av false),some (.vec kI p.Av false)]) 200 (st BY [At 20] (si p)):=by
   rw[fl];refine⟨kK h1,rfl,?_⟩;rw[bl,qs];rfl
  refine Ak.mono (AX.Fh (BK Xb.pf (by kernel_rfl) hv)) fun v H ⟨e,hq⟩=>?_
  subst e;have hq:[H.get 20,H.get 21,H.get 22,H.get 26]=_:=hq;simp only[Nh,iy]at hq;obtain⟨objs',k1,k2,k3,k4,k5,k6⟩:=RG (b0:=20) (q:=some p) (bs:=[20,21,22]) (H:=H) (fun p' h=>by cases h;exact h1) ⟨21,22,rfl,by decide,hq.1,hq.2.1,hq.2.2.1⟩;exact .here (Sc _ [26] k1 rfl k2 k3 k4 k5 k6 (by simp) (fun b hb=>by rw[Q4]at hb;rw[hb];decide) rfl ⟨⟨_,rfl,hq.2.2.2⟩,trivial⟩)
 ·trivial
theorem Po {a:Int} {l:Ad} (h:FF a l=true):(Mi a l != 0)=false:=by unfold Mi;rw[h];rfl
theorem NZ {a:Int} {l:Ad} (h:FF a l=false):(Mi a l != 0)=true/\Mi a l=2:=by unfold Mi;rw[h];exact⟨rfl,rfl⟩
theorem U6 {a:Int} {d:Bool} {l:Ad} (h:FF a l=true) (ha:0 < a):IV ⟨a,d,l⟩:=by
 unfold FF at h;simp only[Dg,TL]at h;refine⟨ha,h.1.1.1.2,by show 0 < l.length;omega,by show l.length<=34;omega,fun x hx=>?_⟩;have:=List.all_eq_true.1 h.2 x hx;unfold I0 at this;simpa using this
def xz (q:Option BP) (a:Int) (d:Bool) (l:Ad):PT:=
 .test (FF a l) (.test (decide (0 < a)) (.ret ⟨int 0,.timer (some ⟨a,d,l⟩),[]⟩) (.ret ⟨int 0,.timer none,[]⟩)) (.ret ⟨int 2,.timer q,[]⟩)
def uO:Gk:=fun s rest os=>match s,rest,os with
 | .timer q,[.agg ⟨[.int .i64 a,.bool d,.slice (some ⟨21,0,some 0⟩) n 18446744073709551616]⟩],[.vec [.int .i64] l _]=> .ask (n=l.length/\n < 1000) (xz q a d l)
 | _,_,_=> .fail
theorem PT.Uh.test {Φ:PL->Prop} {c:Bool} {a b:PT} (h1:c=true->a.Uh Φ) (h2:c=false->b.Uh Φ):(PT.test c a b).Uh Φ:=⟨h1,h2⟩
theorem om:CY Tryz.prog AI Bd (Ai AI 20 [true] (CX 20 uO)):=by
 refine Ek Xb.all (by kernel_rfl) (by kernel_rfl) (n:=BD Bd) (by kernel_rfl) (fun _=>rfl) fun s rest os=>?_
 unfold uO;split
 ·rename_i q a d n l ro;rintro⟨rfl,hn⟩;have hl:FF a l=true->l.length<=34:=fun h=>by
   unfold FF at h;simp only[Dg,TL]at h;exact h.1.2
  have hbig:FF a l=true->0+l.length<=l.length/\BQ 8 l.length=true:=fun h=>by
   have:=hl h;exact⟨by omega,Ia (by decide) (by omega)⟩
  have fin:∀{v:Value} {H:AA} {bs:AW} {q':Option BP} {e:Int} {D:Nat->Prop},bj q'->v=int e->pE 20 q' bs H->Told D (HV AI 20 2 (.timer q') (int e) []) v H:=fun h1 h2 h3=>by subst h2;exact .here (Ry h1 h3 rfl)
  have ok1:FF a l=true->0 < a->bj (some ⟨a,d,l⟩):=fun h h2 p e=>by cases e;exact U6 h h2
  have ok0:bj none:=fun p e=>by cases e
  cases q with
  | none=>
   have run:∀{P:Bm},_->CU XC (Ax cC) [] Bd [20,22,25] 22 P 200 (st Bd [At 20,od a d 21 l.length] (hp [Ph,.vec kI l true])):=fun {P} h=>(nQ a d l l.length P).symm ▸ h
   refine .test (fun hc=> .test (fun ha=>?_) fun ha=>?_) fun hc=>?_
   all_goals
    refine⟨BE (by kernel_rfl),fun objs hr=>⟨_,cM l ro objs hr,?_⟩⟩
   ·have ha:0 < a:=by simpa using ha
    refine Ak.mono (AX.Fh (BK Xb.pf (by kernel_rfl) (run (P:=fun v os=>v=int 0/\os=[some (O1 22),some (Xe ⟨a,d,l⟩ 25),some (.vec kI l false)]) ⟨⟨rfl,hn⟩,AZ (Po hc) (AY (fun _=>⟨hbig hc,rfl,by rw[bl,qs];rfl⟩) fun h=>absurd ha h)⟩))) fun v H ⟨e,hq⟩=>?_
    subst e;have hq:[H.get 20,H.get 22,H.get 25]=_:=hq;simp only[Nh,iy]at hq;exact fin (ok1 hc ha) rfl ⟨22,25,rfl,by decide,hq.1,hq.2.1,hq.2.2⟩
   ·have ha:¬0 < a:=by simpa using ha
    refine Ak.mono (AX.Fh (BK Xb.pf (by kernel_rfl) (run (P:=fun v os=>v=int 0/\∃t,os=some Ph::t) ⟨⟨rfl,hn⟩,AZ (Po hc) (AY (fun h=>absurd h ha) fun _=>⟨rfl,_,rfl⟩)⟩))) fun v H ⟨e,t,hq⟩=>?_
    subst e;have hq:H.get 20::_=_:=hq;simp only[Nh]at hq;exact fin ok0 rfl ⟨rfl,hq.1⟩
   ·refine Ak.mono (AX.Fh (BK Xb.pf (by kernel_rfl) (run (P:=fun v os=>v=int 2/\∃t,os=some Ph::t) ⟨⟨rfl,hn⟩,AB (NZ hc).1 ⟨congrArg int (NZ hc).2,_,rfl⟩⟩))) fun v H ⟨e,t,hq⟩=>?_
    subst e;have hq:H.get 20::_=_:=hq;simp only[Nh]at hq;exact fin ok0 rfl ⟨rfl,hq.1⟩
  | some p=>
   have run:∀{P:Bm},_->CU XC (Ax cC) [] Bd [20,22,23,24,27] 22 P 200 (st Bd [At 20,od a d 21 l.length] (hp [O1 22,.vec kI l true,Xe p 23,.vec kI p.Av false])):=fun {P} h=>(pB p a d l l.length P).symm ▸ h
   refine .test (fun hc=> .test (fun ha=>?_) fun ha=>?_) fun hc=>?_
   all_goals
    refine⟨BE (by kernel_rfl),fun objs hr=>?_⟩;obtain⟨h1,h2⟩:=eD p l ro objs hr;refine⟨_,h2,?_⟩
   ·have ha:0 < a:=by simpa using ha
    refine Ak.mono (AX.Fh (BK Xb.pf (by kernel_rfl) (run (P:=fun v os=>v=int 0/\∃x y,os=[some (O1 24),x,y,some (Xe ⟨a,d,l⟩ 27),some (.vec kI l false)]) ⟨⟨rfl,hn⟩,AZ (Po hc) (AY (fun _=>⟨hbig hc,rfl,_,_,by rw[bl,qs];rfl⟩) fun h=>absurd ha h)⟩))) fun v H ⟨e,x,y,hq⟩=>?_
    subst e;have hq:[H.get 20,H.get 22,H.get 23,H.get 24,H.get 27]=_:=hq;simp only[Nh,iy]at hq;exact fin (ok1 hc ha) rfl ⟨24,27,rfl,by decide,hq.1,hq.2.2.2.1,hq.2.2.2.2⟩
   ·have ha:¬0 < a:=by simpa using ha
    refine Ak.mono (AX.Fh (BK Xb.pf (by kernel_rfl) (run (P:=fun v os=>v=int 0/\∃t,os=some Ph::t) ⟨⟨rfl,hn⟩,AZ (Po hc) (AY (fun h=>absurd h ha) fun _=>⟨rfl,_,rfl⟩)⟩))) fun v H ⟨e,t,hq⟩=>?_
    subst e;have hq:H.get 20::_=_:=hq;simp only[Nh]at hq;exact fin ok0 rfl ⟨rfl,hq.1⟩
   ·refine Ak.mono (AX.Fh (BK Xb.pf (by kernel_rfl) (run (P:=fun v os=>v=int 2/\∃t,os=some (O1 22)::some (Xe p 23)::some (.vec kI p.Av false)::t) ⟨⟨rfl,hn⟩,AB (NZ hc).1 ⟨congrArg int (NZ hc).2,_,rfl⟩⟩))) fun v H ⟨e,t,hq⟩=>?_
    subst e;have hq:H.get 20::H.get 22::H.get 23::_=_:=hq;simp only[Nh]at hq;exact fin (fun p' e=>by cases e;exact h1) rfl ⟨22,23,rfl,by decide,hq.1,hq.2.1,hq.2.2.1⟩
 ·trivial
def xu:Gk:=fun s rest os=>match s,rest,os with
 | .timer q,[],[]=> .ret ⟨At 21,.timer q,[.abs (.pack (.timer q)) false]⟩
 | _,_,_=> .fail
theorem lr {Φ:Ih} {D:Nat->Prop} {v:Value} {H:AA} {z:Nat} {q:Option BP} {bs:AW} (hok:bj q) (h:pE z q bs H) (hA:z∈Au 4 v∨D z)
 (next:∀H2:AA,(∀x,x∉bs->H2.get x=H.get x)->H2.get z=some (.abs (.pack (.timer q)) false)->Told D Φ v H2):Told D Φ v H:=by
 obtain⟨objs,h1,h2,h3,h4,h5,h6⟩:=RG hok h;exact .pO bs h1 rfl h2 hA h3 h4 h5 h6 next
def gx (args:AL) (objs:BN):GT:=match args,objs with
 | [],[]=> .ret ⟨At 20,[],[.abs (.pack (.timer none)) false]⟩
 | _,_=> .fail
theorem oC {s:Pk} {H:AA} {z:Nat} (hz:20<=z) (hg:H.get z=some (.abs (.pack s) false)) (_hx:C3 s=[]):Db AI 20 0 [] ⟨At 20,[],[.abs (.pack s) false]⟩ (At z) H:=by
 refine⟨[z],by simp,fun b hb=>by rw[Q4]at hb;rw[hb];exact hz,rfl,rfl,fun j b o hb ho=>?_,fun j o hj=>(by cases hj)⟩;cases j with
 | zero=>cases hb;cases ho;exact⟨_,rfl,hg⟩
 | succ j=>cases hb
theorem jv:CY Tryz.prog AI E1 (Ai AI 20 [] gx):=by
 refine BF Xb.all (by kernel_rfl) (n:=BD E1) (by kernel_rfl) (by kernel_rfl) fun argsc objs x hx hro=>?_
 clear hro;unfold gx at hx;split at hx
 ·cases hx
  refine⟨ay _,Ak.OE ?_⟩;have hv:CU XC (Ax cC) [] E1 [] 20 (fun v os=>v=At 20/\os=[some Ph]) 100 (st E1 [] (hp [])):=by rw[nO];exact⟨rfl,rfl⟩
  refine Ak.mono (AX.Fh (BK Xb.pf (by kernel_rfl) hv)) fun v H ⟨e,hq⟩=>?_
  subst e;have hq:[H.get 20]=_:=hq;simp only[Nh,iy]at hq;exact lr (z:=20) (q:=none) (bs:=[20]) (fun p h=>by cases h) ⟨rfl,hq⟩ (.inl (by simp[Au,At])) fun H2 g1 g2=> .here (oC (GO _) g2 rfl)
 ·cases hx
theorem nA {ρ:Ren} {a b j:Nat} (h:ρ a=some b):Dr ρ (.pointer (some ⟨a,18446744073709551616,some j⟩))=some (.pointer (some ⟨b,18446744073709551616,some j⟩)):=by
 show(Je ρ ⟨a,_,_⟩).map (fun a=>Value.pointer (some a))=_;simp only[Je,h];rfl
theorem ez {ρ:Ren} {a b:Nat} (h:ρ a=some b) (n:Nat):DB (Dr ρ) (Ds a n)=some (Ds b n):=by
 have key:∀l:AW,DB (Dr ρ) (l.map fun j=>Value.pointer (some ⟨a,cU,some j⟩))=some (l.map fun j=>Value.pointer (some ⟨b,cU,some j⟩)):=by
  intro l;induction l with
  | nil=>rfl
  | cons j l ih=>
   simp only[Sm,DB,ih];rw[nA h]
 exact key _
theorem Nr {ρ:Ren} {a b:Nat} (h:ρ a=some b) (n:Nat) (ro:Bool):BV ρ (.vec [.tok] (Ds a n) ro)=some (.vec [.tok] (Ds b n) ro):=by
 show(DB (Dr ρ) (Ds a n)).map _=_;rw[ez h];rfl
theorem VY (a n:Nat):(Ds a n).length=n:=by unfold Ds;simp
theorem VZ {a n j:Nat} (h:j < n) (d:EK.C [.tok]):(Ds a n).getD j d= .pointer (some ⟨a,cU,some j⟩):=by
 unfold Ds;rw[Kd,Sy,AAf h];rfl
def MA (L:List AS):AP:= .abs (.Bl (L.map fun m=>some (.CJ m))) false
def Uw (r n:Nat):AP:= .cells [Ao r n] 0 false
def pT (L:List AS):AA:=hp [Uw 21 L.length,.vec [.tok] (Ds 22 L.length) false,MA L]
theorem Tj (L:List AS) (objs:BN) (hr:Bx (.Bw L) objs):(0 < L.length/\L.length<=34)/\FB (DH ⟨.leaf,20⟩ [.abs (.pack (.Bw L)) false]) 20 false objs (pT L) []:=by
 cases hr with
 | Bw _ h h2=>
  refine⟨⟨h,h2⟩,?_⟩;have:=GJ (N:=20) (s:= .Bw L) (os:=[]) (o:= .cells [.slice (some ⟨1,0,some 0⟩) L.length cU] 0 false) (o1:=Uw 21 L.length) (ps:=[.vec [.tok] (Ds 2 L.length) false,MA L]) (ps1:=[.vec [.tok] (Ds 22 L.length) false,MA L]) rfl rfl (two (Nr (by rfl) _ _) rfl);have e:D7 ((DH ⟨.leaf,20⟩ [.abs (.pack (.Bw L)) false]).put 20 (Uw 21 L.length)) [.vec [.tok] (Ds 22 L.length) false,MA L]=pT L:=by kernel_rfl
  rw[e]at this;exact this
theorem Wu (L:List AS) (o:AP) (objs:BN) (hr:Bx (.Bw L) objs):(0 < L.length/\L.length<=34)/\FB (DH ⟨.leaf,20⟩ [.abs (.pack (.Bw L)) false,o]) 20 false objs (hp [Uw 22 L.length,o,.vec [.tok] (Ds 23 L.length) false,MA L]) []:=by
 cases hr with
 | Bw _ h h2=>
  refine⟨⟨h,h2⟩,?_⟩;have:=GJ (N:=20) (s:= .Bw L) (os:=[o]) (o:= .cells [.slice (some ⟨1,0,some 0⟩) L.length cU] 0 false) (o1:=Uw 22 L.length) (ps:=[.vec [.tok] (Ds 2 L.length) false,MA L]) (ps1:=[.vec [.tok] (Ds 23 L.length) false,MA L]) rfl rfl (two (Nr (by rfl) _ _) rfl);have e:D7 ((DH ⟨.leaf,20⟩ [.abs (.pack (.Bw L)) false,o]).put 20 (Uw 22 L.length)) [.vec [.tok] (Ds 23 L.length) false,MA L]=hp [Uw 22 L.length,o,.vec [.tok] (Ds 23 L.length) false,MA L]:=by kernel_rfl
  rw[e]at this;exact this
structure ml (b0 r a:Nat) (L:List AS) (H:AA):Prop where
 nd:[b0,r,a].Nodup
 g0:H.get b0=some (Uw r L.length)
 g1:H.get r=some (.vec [.tok] (Ds a L.length) false)
 g2:H.get a=some (MA L)
theorem Qz {b0 r a:Nat} {L:List AS} {H:AA} (hn:0 < L.length) (hn2:L.length<=34) (h:ml b0 r a L H):∃objs,Bx (.Bw L) objs/\[b0,r,a][0]? = some b0/\[b0,r,a].Nodup/\(∀b∈[b0,r,a],JW H [b0] b)/\Ft [b0,r,a] H [b0,r,a] objs/\(∀o T,objs[0]? = some o->¬o.void T):=by
 refine⟨_,.Bw L hn hn2,rfl,h.nd,fun b hb=>?_,⟨⟨_,h.g0,rfl,rfl,rfl⟩,⟨_,h.g1,rfl,rfl,Nr (by rfl) _ _⟩,⟨_,h.g2,rfl,rfl,rfl⟩,trivial⟩,fun o T ho=>by cases ho;exact id⟩;have g1:JW H [b0] r:= .next (.here (by simp)) h.g0 (by simp[IK,Au,Ao,Uw]);simp only[Ul,bG,vK]at hb;rcases hb with rfl | rfl | rfl
 ·exact .here (by simp)
 ·exact g1
 ·refine .next g1 h.g1 ?_;show b∈(Ag [.tok] (Ds b L.length)).flatMap (Au 4);rw[D9];refine List.mem_flatMap.2 ⟨.pointer (some ⟨b,cU,some 0⟩),?_,by simp[Au]⟩;unfold Ds;exact List.mem_map.2 ⟨0,List.mem_range.2 hn,rfl⟩
theorem QT {j r a:Nat} {L:List AS} {H:AA} {v:Value} (hn:0 < L.length) (hn2:L.length<=34) (h:ml 20 r a L H) (hv:Cu 6 v=true):HV AI 20 j (.Bw L) v [] v H:=by
 obtain⟨objs,h1,h2,h3,h4,h5,h6⟩:=Qz hn hn2 h;exact Sc _ [] h1 rfl h2 h3 h4 h5 h6 dG (fun b hb=>by cases hb) (J8 6 v hv) trivial
def R8 (f:FuncId) (muts:List Bool) (G:AL->BN->GT) (s:Pk):GA:=(f,RW (Ai AI 20 muts G),fJ (Cs AI 20 muts G) s)
theorem Ci.mem {f:FuncId} {muts:List Bool} {G:AL->BN->GT} {s:Pk} {l:List GA} (h:CY Tryz.prog AI f (Ai AI 20 muts G)) (t:Ci l):Ci (R8 f muts G s::l):=by
 refine .other (jQ h) (fun X g hX args H K hk=>kc hX (fun args H K h=>?_) args H K hk) t;have hctx:(⟨X.P,X.laid,fun _=>some (Ai AI 20 muts G),X.BJ⟩:Ctx).IN g=some (Ai AI 20 muts G):=rfl;obtain⟨v,H',h1,h2⟩:=Gq hctx h;exact⟨v,H',h1,h2⟩
def cD (m:AS):List GA:=[R8 Be [true] (CX 20 YE) (.CJ m),R8 EX [true] (CX 20 (Td Cn)) (.CJ m),R8 Bs [true] (CX 20 Ud) (.CJ m),
 R8 Et [true] (CX 20 kM) (.CJ m),R8 DU [true] (CX 20 kg) (.CJ m),R8 EP [true] (CX 20 bL) (.CJ m),R8 D1 [true] (CX 20 P9) (.CJ m),GQ DJ [] OL]
theorem vn (m:AS):Ci (cD m):= .mem bx (.mem YX (.mem Zi (.mem cz (.mem cG (.mem YS (.mem XM (.cons TO .nil)))))))
abbrev XD:Ctx:=Bp Tryz.prog AI (Cv (cD ⟨0,0,[]⟩))
theorem yw (m m':AS):Cv (cD m)=Cv (cD m'):=rfl
theorem iE (m:AS):HO XD (Ax (cD m)):=by
 have:=(vn m).pf;rw[yw m ⟨0,0,[]⟩]at this;exact this
def aX (a j:Nat):Value:= .pointer (some ⟨a,18446744073709551616,some j⟩)
def Ea (L:List AS):List (Option Pk):=L.map fun m=>some (.CJ m)
def VF (r a n:Nat) (l:List (Option Pk)):LR:=[some (Uw r n),some (.vec [.tok] (Ds a n) false),some (.abs (.Bl l) false)]
def wb (L:List AS) (a:Nat) (s:Int) (j:Nat) (m:AS) (E:Int->Prop) (K:Prop):Prop:=
 bif decide (Int.ofNat L.length > 0)then(bif decide (s < 0)then E 3 else(bif decide (s≥Int.ofNat L.length)then E 3 else
  (bif decide (0<=s)&&Nat.blt s.toNat L.length then(bif Nat.blt (0+s.toNat) (Ds a L.length).length then
   IZ (SK.enc SK.tok ((Ds a L.length).getD (0+s.toNat) (EK.BL [SK.tok]))) (aX a j)/\Tq (Ea L) j (.CJ m)/\K else False)else False)))else E 1
theorem Ua {L:List AS} {a:Nat} {s:Int} {j:Nat} {m:AS} {E:Int->Prop} {K:Prop} (h0:0 < L.length) (hs:s < 0∨s≥(L.length:Int)) (h:E 3):wb L a s j m E K:=by
 refine AB (KE (by show(L.length:Int) > 0;omega)) (AY (fun _=>h) fun h1=>AY (fun _=>h) fun h2=>?_);have h2:¬s≥(L.length:Int):=h2;omega
theorem Z2 {L:List AS} {j:Nat} {m:AS} (h:L[j]? = some m):(Ea L)[j]? = some (some (.CJ m)):=by unfold Ea;rw[Sy,h];rfl
theorem Py {L:List AS} {a:Nat} {s:Int} {m:AS} {E:Int->Prop} {K:Prop} (h1:0<=s) (h2:s < (L.length:Int)) (hm:L[s.toNat]? = some m) (h:K):wb L a s s.toNat m E K:=by
 have hlt:s.toNat < L.length:=by omega
 refine AB (KE (by show(L.length:Int) > 0;omega)) (AY (fun h=>absurd h (by omega)) fun _=>AY (fun h=>absurd h (by show ¬s≥(L.length:Int);omega)) fun _=>AB ?_ (AB ?_ ⟨⟨?_⟩,⟨Z2 hm⟩,h⟩))
 ·simp only[Dg,TL];exact⟨h1,Ez hlt⟩
 ·rw[VY,RP];exact Ez hlt
 ·rw[RP];exact VZ hlt _
theorem Ko (L:List AS) (j:Nat) (m:AS):(Ea L).set j (some (.CJ m))=Ea (L.set j m):=by unfold Ea;rw[List.map_set]
def Ba (L:List AS) (s:Int):Bool:=decide (s < 0)||decide (s≥L.length)
def ar (bad:Value) (v:AS->Value) (g:AS->AS):Gk:=fun p rest os=>match p,rest,os with
 | .Bw L,[.int .i64 s],[]=> .test (Ba L s) (.ret ⟨bad,.Bw L,[]⟩) (.ret ⟨v (L.getD s.toNat ⟨0,0,[]⟩),.Bw (L.set s.toNat (g (L.getD s.toNat ⟨0,0,[]⟩))),[]⟩)
 | _,_,_=> .fail
theorem V9 {L:List AS} {s:Int} (h:Ba L s=false):0<=s/\s < (L.length:Int)/\L[s.toNat]? = some (L.getD s.toNat ⟨0,0,[]⟩):=by
 unfold Ba at h;simp only[xp,kV]at h;have hlt:s.toNat < L.length:=by omega
 refine⟨by omega,by omega,?_⟩;rw[Kd,Jj hlt];rfl
theorem Q8 {L:List AS} {s:Int} (h:Ba L s=true):s < 0∨s≥(L.length:Int):=by
 unfold Ba at h;simpa using h
theorem OW {r a n:Nat} {l:List (Option Pk)} {H:AA} {t t2:LR} (h:H.get 20::H.get r::H.get a::t=VF r a n l++t2):H.get 20=some (Uw r n)/\H.get r=some (.vec [.tok] (Ds a n) false)/\H.get a=some (.abs (.Bl l) false)/\t=t2:=by
 simp only[VF,sK,ic,Nh]at h;exact h
theorem M5 {f:FuncId} (he:entry Tryz.prog f=some (BD f,A9 Tryz.prog f [])) (ha:Nat.ble 2 (BD f)=true) (bad:Int->Value) (v:AS->Value) (g:AS->AS) (hb:Cu 6 (bad 3)=true) (hv:∀m,Cu 6 (v m)=true)
 (hvc:∀L m j s Q,CU XD (Ax (cD m)) [(21,aX 22 j)] f [20,21,22] 21 Q 300 (st f [At 20,int s] (pT L))=wb L 22 s j m (fun e=>Q (bad e) (VF 21 22 L.length (Ea L))) (GD (.CJ (g m)) (Ea L) ((Ea L).set j none) j/\Q (v m) (VF 21 22 L.length ((Ea L).set j (some (.CJ (g m))))))):
 CY Tryz.prog AI f (Ai AI 20 [true] (CX 20 (ar (bad 3) v g))):=by
 refine Ek (vn ⟨0,0,[]⟩).all (by kernel_rfl) (by kernel_rfl) (n:=BD f) he (fun _=>rfl) fun p rest os=>?_
 unfold ar;split
 ·rename_i L s;refine .test (fun hc=>?_) fun hc=>?_
  all_goals refine⟨BE ha,fun objs hr=>?_⟩
  ·obtain⟨⟨h0,h34⟩,h2⟩:=Tj L objs hr;have hq:CU XD (Ax (cD ⟨0,0,[]⟩)) [(21,aX 22 0)] f [20,21,22] 21 (fun w os=>w=bad 3/\os=VF 21 22 L.length (Ea L)) 300 (st f [At 20,int s] (pT L)):=by
    rw[hvc];exact Ua h0 (Q8 hc) ⟨rfl,rfl⟩
   refine⟨_,h2,Ak.mono (AX.Fh (BK (iE _) (by kernel_rfl) hq)) fun w H ⟨e,hq⟩=>?_⟩;subst e;obtain⟨g0,g1,g2,_⟩:=OW (t:=(Au 4 (bad 3)).map H.get) (t2:=[]) (by rw[vf];exact hq);exact .here (QT h0 h34 ⟨by decide,g0,g1,g2⟩ hb)
  ·obtain⟨⟨h0,h34⟩,h2⟩:=Tj L objs hr;obtain⟨k1,k2,k3⟩:=V9 hc;generalize L.getD s.toNat ⟨0,0,[]⟩=m at k3 ⊢;have hq:CU XD (Ax (cD m)) [(21,aX 22 s.toNat)] f [20,21,22] 21 (fun w os=>w=v m/\os=VF 21 22 L.length (Ea (L.set s.toNat (g m)))) 300 (st f [At 20,int s] (pT L)):=by
    rw[hvc];exact Py k1 k2 k3 ⟨⟨rfl,rfl⟩,rfl,by rw[Ko]⟩
   refine⟨_,h2,Ak.mono (AX.Fh (BK (iE _) (by kernel_rfl) hq)) fun w H ⟨e,hq⟩=>?_⟩;subst e;obtain⟨g0,g1,g2,_⟩:=OW (t:=(Au 4 (v m)).map H.get) (t2:=[]) (by rw[vf];exact hq);refine .here (QT (r:=21) (a:=22) (by rw[SB];exact h0) (by rw[SB];exact h34) ⟨by decide,?_,?_,g2⟩ (hv m))
   ·rw[SB];exact g0
   ·rw[SB];exact g1
 ·trivial
theorem YQ:CY Tryz.prog AI JJ (Ai AI 20 [true] (CX 20 (ar (int 3) (fun _=>int 0) Cn))):=M5 (by kernel_rfl) (by kernel_rfl) int _ Cn rfl (fun _=>rfl) fun L m j s Q=>by kernel_rfl
def DE (a b:Int):Value:= .tuple ⟨[int a,int b]⟩
theorem du:CY Tryz.prog AI J0 (Ai AI 20 [true] (CX 20 (ar (DE 0 3) (fun m=>DE m.b.length 0) id))):=M5 (by kernel_rfl) (by kernel_rfl) (DE 0) _ id rfl (fun _=>rfl) fun L m j s Q=>by kernel_rfl
theorem cm:CY Tryz.prog AI HX (Ai AI 20 [true] (CX 20 (ar (DE 0 3) (fun m=>DE m.Ej 0) id))):=M5 (by kernel_rfl) (by kernel_rfl) (DE 0) _ id rfl (fun _=>rfl) fun L m j s Q=>by kernel_rfl
theorem ZM:CY Tryz.prog AI JD (Ai AI 20 [true] (CX 20 (ar (DE 0 3) (fun m=>DE (m.size - m.b.length) 0) id))):=M5 (by kernel_rfl) (by kernel_rfl) (DE 0) _ id rfl (fun _=>rfl) fun L m j s Q=>by kernel_rfl
def vB (l:Ad) (n:Nat) (m i:Int):BT:=
 ⟨⟨BW,EZ [(0,Ao 20 n),(3,int m),(4,int i)],BD BW,[.code (A9 Tryz.prog BW [1,1,1,0,1,0,0]),.inLoop (A9 Tryz.prog BW [1,1,1,0,1,0,0]),.inBlock 0,.code (A9 Tryz.prog BW [1,1,1,1])],[],false,.normal,none⟩,[],hp [.vec kI l true]⟩
def wF:Stop:=⟨BW,0,3,21,[20],[0,3,4]⟩
theorem rZ (l:Ad) (n:Nat) (Q:Bm) (R:Bz):Iy X0 Cz [] BW [] wF [] Q R 100 (st BW [Ao 20 n] (hp [.vec kI l true]))=(
 (bif decide (Int.ofNat n < 1)then False else(bif decide (0<=0)&&Nat.blt 0 n then(bif Nat.blt 0 l.length then(R (vB l n (List.getD l 0 (EK.BL kI)) 1))else False)else False))):=by kernel_rfl
theorem pg (l:Ad) (n:Nat) (m i:Int) (Q:Bm) (R:Bz):Iy X0 Cz [] BW [] wF [] Q R 100 (vB l n m i)=(
 (bif decide (i < Int.ofNat n)then(bif decide (0<=i)&&Nat.blt i.toNat n then(bif Nat.blt (0+i.toNat) l.length then(R (vB l n (if List.getD l (0+i.toNat) (EK.BL kI) < m then List.getD l (0+i.toNat) (EK.BL kI)else m) (IntKind.wrap .i64 (i+1))))else False)else False)else(Q (int m) []))):=by kernel_rfl
def dJ (m:Int):Ad->Int
 | []=>m
 | x::l=>dJ (if x < m then x else m) l
def oR:Ad->Int
 | []=>0
 | x::l=>dJ x l
theorem Oy:∀(l:Ad) (m:Int),0<=m->(∀x∈l,0<=x)->0<=dJ m l
 | [],_,h,_=>h
 | x::l,m,h,hl=>Oy l _ (by split<;>first | exact hl x (by simp) | exact h) fun y hy=>hl y (by simp[hy])
theorem WR {l:Ad} (h:∀x∈l,0<=x):0<=oR l:=by
 cases l with
 | nil=>exact AAm _
 | cons x l=>exact Oy l x (h x (by simp)) fun y hy=>h y (by simp[hy])
theorem oD {l:Ad} {n:Nat} (hn:n=l.length) (hs:n < 1000):∀(q i:Nat) (m:Int),n - i=q->i<=n->AX X0 21 BW (fun v _=>v=int (dJ m (l.drop i))) (vB l n m i):=by
 intro q;induction q with
 | zero=>
  intro i m hq hi;refine Bq (CB X0) [] [] wF [] (by kernel_rfl) (GO _) (fun v _=>v=int (dJ m (l.drop i))) (fun _=>False) (fun v H h=>h) (fun c h=>h.elim) (n:=100) ?_;rw[pg];refine AY (fun h=>absurd (show(i:Int) < (n:Int)from h) (by omega)) fun _=>?_
  rw[ur (by omega)];rfl
 | succ q ih=>
  intro i m hq hi;have hlt:i < l.length:=by omega
  refine Bq (CB X0) [] [] wF [] (by kernel_rfl) (GO _) (fun _ _=>False) (fun c=>c=vB l n (if l.getD i 0 < m then l.getD i 0 else m) (i+1:Nat)) (fun v H h=>h.elim) (fun c h=>?_) (n:=100) ?_
  ·rw[h];have:=ih (i+1) (if l.getD i 0 < m then l.getD i 0 else m) (by omega) (by omega);rw[uP hlt,dJ];rw[Kd,Jj hlt]at this ⊢;exact this
  ·rw[pg];have e1:IntKind.wrap .i64 ((i:Int)+1)=((i+1:Nat):Int):=by rw[wrap64 (by omega) (by omega)];rfl
   have e2:l.getD (0+Int.toNat (i:Int)) (EK.BL kI)=l.getD i 0:=by rw[RP,MG];rfl
   rw[e1,e2];refine AY (fun _=>AB ?_ (AB ?_ rfl)) fun h=>absurd (show(i:Int) < (n:Int) by omega) h
   ·simp only[MG,Dg,TL];exact⟨by omega,Ez (by omega)⟩
   ·rw[RP,MG];exact Ez (by omega)
def yM (args:AL) (objs:BN):GT:=
 match args,objs with
 | [.slice (some ⟨20,0,some 0⟩) n 18446744073709551616],[.vec [.int .i64] l _]=> .ask (n=l.length/\0 < n/\n < 1000) (.ret ⟨int (oR l),[],[]⟩)
 | _,_=> .fail
theorem Ch {m:Nat} {v:Value} {H:AA} (hv:Cu 6 v=true):Db AI 20 m [] ⟨v,[],[]⟩ v H:=⟨[],dG,fun b hb=>(by cases hb),rfl,J8 6 v hv,fun j b o hj=>(by cases hj),fun j o hj hm=>(by cases hm)⟩
theorem mA:CY Tryz.prog AI BW (Ai AI 20 [] yM):=by
 refine BF (CO.nil _ _) (by kernel_rfl) (n:=BD BW) (by kernel_rfl) (by kernel_rfl) fun argsc objs x hx hro=>?_
 clear hro;unfold yM at hx;split at hx
 ·rename_i n l ro;simp only[GT.run]at hx;split at hx
  ·rename_i hp0;cases hx
   obtain⟨hn,h0,hs⟩:=hp0;refine⟨BE (by kernel_rfl),Ak.mono (Q:=fun v _=>v=int (oR l)) (AX.Fh ?_) fun v H hv=>by subst hv;exact Ch rfl⟩;refine Bq (CB X0) [] [] wF [] (by kernel_rfl) (GO _) (fun _ _=>False) (fun c=>c=vB l n (l.getD 0 0) 1) (fun v H h=>h.elim) (fun c h=>?_) (n:=100) ?_
   ·rw[h];cases l with
    | nil=>simp at hn;omega
    | cons x l=>exact oD hn hs (n - 1) 1 x rfl (by omega)
   ·refine(rZ l n _ _).symm ▸ ?_;refine AY (fun h=>absurd (show(n:Int) < 1 from h) (by omega)) fun _=>AB ?_ (AB ?_ rfl)
    ·simp only[Dg,TL];exact⟨by decide,Ez h0⟩
    ·exact Ez (by omega)
  ·cases hx
 ·cases hx
def cR (m:AS):List GA:=GQ BW [] yM::cD m
abbrev XR:Ctx:=Bp Tryz.prog AI (Cv (cR ⟨0,0,[]⟩))
def xq (ids:AW) (l:List (EK.C [.tok])):List (EK.C [.tok]):=List.map (Np (Fw 24 ids)) l
def lR (L:List AS) (o:List (Option Pk)) (Av:Ad) (row:List (EK.C [.tok])) (n i:Int):BT:=
 ⟨⟨DD,EZ [(0,.func (.yield 26) ⟨[]⟩ ⟨[]⟩),(1,At 24),(5,int n),(6,int i)],BD DD,[.code (A9 Tryz.prog DD [1,0,0]),.inLoop (A9 Tryz.prog DD [1,0,0]),.inBlock 0],[],false,.normal,none⟩,
  [⟨A7,EZ [(2,At 28),(3,At 27)],BD A7,[.inRangeFunc 26,.inBlock 1,.code (A9 Tryz.prog A7 [1,1,1])],[⟨.collected 25,⟨[]⟩⟩],false,.normal,none⟩],
  (((((hp [Uw 22 L.length,.vec kI Av true,.vec [.tok] row false,.abs (.Bl o) false]).alloc (.cells [At 20] 0 false)).alloc (.deferred (some []))).alloc (.loop ⟨.ready,none,A7,EZ [(2,At 28),(3,At 27)],BD A7,#[26],A9 Tryz.prog A7 [1,1,0,1,0,0],A9 Tryz.prog A7 [1,1,0,1,0,1],25⟩)).alloc (.cells [Ao 21 Av.length] 0 false)).alloc (.cells [At 20] 0 false)⟩
def xP:Stop:=⟨DD,1,2,24,[20,21,22,23],[0,1,5,6]⟩
def vj:FV:=[(A7,[2,3])]
theorem sL (L:List AS) (m:AS) (Av:Ad) (Q:Bm) (R:Bz):Iy XR (Ax (cR m)) [] A7 [20,22,23] xP vj Q R 300 (st A7 [At 20,Ao 21 Av.length] (hp [Uw 22 L.length,.vec kI Av true,.vec [.tok] (Ds 23 L.length) false,MA L]))=(
 let d:=Int.ofNat L.length > 0;let c:=xq [26,27,28,25,24] (Ds 23 L.length);let b:AP:= .cells [(Ao 22 L.length)] 0 false;let a:AP:= .vec [SK.tok] (Ds 23 L.length) false;(bif decide d then(bif decide (Int.ofNat Av.length < 1)then(Q (int 2) [some b,some a,some (.abs (Ct.Bl (List.map (fun m_1=>some (Pk.CJ m_1)) L)) false)])else(bif decide (Int.ofNat Av.length > 34)then(Q (int 2) [some b,some a,some (.abs (Ct.Bl (List.map (fun m_1=>some (Pk.CJ m_1)) L)) false)])else(Av.length=Av.length/\0 < Av.length/\Av.length < 1000)/\(bif decide (oR Av < 0)then(Q (int 2) [some b,some a,some (.abs (Ct.Bl (List.map (fun m_1=>some (Pk.CJ m_1)) L)) false)])else(bif decide d then(R (lR L (Ea L) Av c (Int.ofNat L.length) 0))else(R (lR L (Ea L) Av c 0 0))))))else(Q (int 1) [some b,some a,some (.abs (Ct.Bl (List.map (fun m_1=>some (Pk.CJ m_1)) L)) false)]))):=by kernel_rfl
theorem qn (L:List AS) (o:List (Option Pk)) (m:AS) (Av:Ad) (row:List (EK.C [.tok])) (j:Nat) (n i:Int) (Q:Bm) (R:Bz):Iy XR (Ax (cR m)) [(22,aX 23 j)] A7 [20,22,23] xP vj Q R 500 (lR L o Av row n i)=(
 let q:=Int.ofNat Av.length;let p:=((AS.b m).length:Int);let l:=PL.nx { v:=int 2,nx:=Pk.CJ m,news:=[] };let k:=IntKind.wrap .i64 (i+1);let h:=xq [24,25,26,27,28] row;let f:=PL.nx { v:=int p,nx:=Pk.CJ m,news:=[] };let e:=IZ (SK.enc SK.tok (List.getD row (0+i.toNat) (EK.BL [SK.tok]))) (Prod.snd (22,aX 23 j));let d:=Int.tmod i q;let c:=if 8192 < List.getD Av (0+d.toNat) (EK.BL kI)then 8192 else List.getD Av (0+d.toNat) (EK.BL kI);let g:=PL.nx { v:=int 0,nx:=Pk.CJ (M3 m c),news:=[] };let a:=List.set o j (some f);let r:=List.set a j none;(bif decide (i < n)then(bif decide (0<=i)&&Nat.blt i.toNat L.length then(bif Nat.blt (0+i.toNat) row.length then e/\(Tq o j (Pk.CJ m))/\(GD f o (List.set o j none) j)/\(bif decide (p > 0)then(bif decide (0<=i)&&Nat.blt i.toNat L.length then(bif Nat.blt (0+i.toNat) row.length then e/\(bif decide (Int.ofNat Av.length≠0)then(bif decide (0<=Int.tmod i q)&&Nat.blt d.toNat Av.length then(bif Nat.blt (0+d.toNat) Av.length then(Tq a j (Pk.CJ m))/\(bif decide (c < 0)then(GD l a r j)/\(R (lR L (List.set a j (some l)) Av h n k))else(GD g a r j)/\(R (lR L (List.set a j (some g)) Av h n k)))else False)else False)else False)else False)else False)else(R (lR L a Av h n k)))else False)else False)else(Q (int 0) [some (.cells [(Ao 22 L.length)] 0 false),some (.vec [SK.tok] row false),some (.abs (Ct.Bl o) false)]))):=by kernel_rfl
theorem yn (m:AS):Ci (cR m):= .cons mA (vn m)
theorem uE (m:AS):HO XR (Ax (cR m)):=by
 have:=(yn m).pf;have e:Cv (cR m)=Cv (cR ⟨0,0,[]⟩):=rfl;rw[e]at this;exact this
def i0:AS:=⟨0,0,[]⟩
def Im (Av:Ad) (i:Nat):Int:=if 8192 < Av.getD (i % Av.length) 0 then 8192 else Av.getD (i % Av.length) 0
def IW (Av:Ad) (i:Nat) (m:AS):AS:=bif decide (0 < m.b.length)then M3 m (Im Av i)else m
def Ff (Av:Ad) (L:List AS):Nat->List AS
 | 0=>L
 | i+1=>(Ff Av L i).set i (IW Av i (L.getD i i0))
theorem FY (Av:Ad) (L:List AS):∀i,(Ff Av L i).length=L.length
 | 0=>rfl
 | i+1=>by rw[Ff,SB,FY Av L i]
theorem Qw (Av:Ad) (L:List AS):∀(i k:Nat),(Ff Av L i)[k]? = if k < i then(L[k]?).map (IW Av k)else L[k]?
 | 0,k=>by simp[Ff]
 | i+1,k=>by
  rw[Ff,Q6,FY,Qw Av L i k]
  by_cases e:i=k
  ·subst e;rw[MB rfl,MB (Nat.lt_succ_self i)]
   by_cases h:i < L.length
   ·rw[MB h,Kd,Jj h];rfl
   ·rw[JT h,T6 (by omega)];rfl
  ·rw[JT e]
   by_cases h:k < i
   ·rw[MB h,MB (by omega)]
   ·rw[JT h,JT (by omega)]
theorem jd (ids:AW) (n:Nat):xq ids (Ds 23 n)=Ds 23 n:=by
 unfold xq Ds;rw[AAw];exact AAQ fun j _=>rfl
structure KM (Av:Ad):Prop where
 k0:0 < Av.length
 k1:Av.length<=34
 k2:∀x∈Av,0<=x
theorem cp {Av:Ad} (h:KM Av) (i:Nat):0<=Im Av i:=by
 have hlt:i % Av.length < Av.length:=AAd _ h.k0;have:0<=Av.getD (i % Av.length) 0:=by
  rw[Kd,Jj hlt];exact h.k2 _ (AAX hlt)
 unfold Im;split<;>omega
def sY (L:List AS) (v:Value) (os:LR):Prop:=v=int 0/\os=VF 22 23 L.length (Ea L)
theorem mC {L:List AS} {Av:Ad} (hk:KM Av) (h0:0 < L.length) (h34:L.length<=34):∀(q i:Nat),L.length - i=q->i<=L.length->
 AX XR 22 A7 (fun v H=>sY (Ff Av L L.length) v (([20,22,23]++Au 4 v).map H.get)) (lR L (Ea (Ff Av L i)) Av (Ds 23 L.length) L.length i):=by
 intro q;induction q with
 | zero=>
  intro i hq hi;obtain rfl:i=L.length:=by omega
  refine Bq (uE i0) [(22,aX 23 0)] [20,22,23] xP vj (by kernel_rfl) (by decide) (sY (Ff Av L L.length)) (fun _=>False) (fun v H h=>h) (fun c h=>h.elim) (n:=500) ?_;rw[qn];refine AY (fun h=>absurd h (by omega)) fun _=>⟨rfl,?_⟩
  show _=VF 22 23 (Ff Av L L.length).length _;rw[FY];rfl
 | succ q ih=>
  intro i hq hi;have hlt:i < L.length:=by omega
  have hm:(Ff Av L i)[i]? = some (L.getD i i0):=by
   rw[Qw,JT (uB i),Kd,Jj hlt];rfl
  have hw:IntKind.wrap .i64 ((i:Int)+1)=((i+1:Nat):Int):=by rw[wrap64 (by omega) (by omega)];rfl
  refine Bq (uE (L.getD i i0)) [(22,aX 23 i)] [20,22,23] xP vj (by kernel_rfl) (by decide) (fun _ _=>False) (fun c=>c=lR L (Ea (Ff Av L (i+1))) Av (Ds 23 L.length) L.length (i+1:Nat)) (fun v H h=>h.elim) (fun c h=>by rw[h];exact ih (i+1) (by omega) (by omega)) (n:=500) ?_;generalize hgm:L.getD i i0=m at hm;rw[qn];(conv=>zeta);rw[jd,hw]
  have c1:(decide (0<=(i:Int))&&Nat.blt (Int.toNat (i:Int)) L.length)=true:=by
   simp only[MG,Dg,TL];exact⟨by omega,Ez hlt⟩
  have c2:Nat.blt (0+Int.toNat (i:Int)) (Ds 23 L.length).length=true:=by
   rw[VY,RP,MG];exact Ez hlt
  have c3:IZ (SK.enc SK.tok ((Ds 23 L.length).getD (0+Int.toNat (i:Int)) (EK.BL [SK.tok]))) (aX 23 i):=⟨by rw[RP,MG];exact VZ hlt _⟩;have hset:∀(o:List (Option Pk)) (x:Option Pk),(o.set i x).set i=o.set i:=fun o x=>by funext y;exact AAb ..
  have hup:∀m',m'=IW Av i m->(Ea (Ff Av L i)).set i (some (.CJ m'))=Ea (Ff Av L (i+1)):=fun m' e=>by rw[Ko,Ff,hgm,e]
  refine AY (fun _=>AB c1 (AB c2 ⟨c3,⟨Z2 hm⟩,⟨rfl,rfl⟩,AY (fun hb=>?_) fun hb=>?_⟩)) fun h=>absurd (show(i:Int) < (L.length:Int) by omega) h
  ·have hbl:0 < m.b.length:=by omega
   have hk0:=hk.k0;have e4:Int.tmod (i:Int) (Int.ofNat Av.length)=((i % Av.length:Nat):Int):=by show Int.tmod (i:Int) (Av.length:Int)=_;rw[AAO (by omega)];rfl
   have hml:i % Av.length < Av.length:=AAd _ hk0;have e5:Av.getD (0+Int.toNat ((i % Av.length:Nat):Int)) (EK.BL kI)=Av.getD (i % Av.length) 0:=by rw[RP,MG];rfl
   have e6:(if 8192 < Av.getD (i % Av.length) 0 then 8192 else Av.getD (i % Av.length) 0)=Im Av i:=rfl;rw[e4,e5,e6];refine AB c1 (AB c2 ⟨c3,AY (fun _=>AB ?_ (AB ?_ ⟨⟨?_⟩,AY (fun h=>absurd (cp hk i) (by omega)) fun _=>⟨⟨rfl,rfl⟩,?_⟩⟩)) fun h=>absurd (show(Int.ofNat Av.length)≠0 by show(Av.length:Int)≠0;omega) h⟩)
   ·simp only[MG,Dg,TL];exact⟨by omega,Ez hml⟩
   ·rw[RP,MG];exact Ez hml
   ·rw[Q6,MB rfl,MB];unfold Ea;rw[oB,FY];exact hlt
   ·rw[AAb];rw[hup _ (by unfold IW;rw[KE hbl];rfl)]
  ·have hbl:¬0 < m.b.length:=by omega
   show lR _ _ _ _ _ _=_;rw[hup m (by unfold IW;rw[MC hbl];rfl)]
def yX:Gk:=fun p rest os=>match p,rest,os with
 | .Bw L,[.slice (some ⟨21,0,some 0⟩) n 18446744073709551616],[.vec [.int .i64] Av _]=> .ask (n=Av.length/\KM Av) (.ret ⟨int 0,.Bw (Ff Av L L.length),[]⟩)
 | _,_,_=> .fail
theorem Vu:CY Tryz.prog AI A7 (Ai AI 20 [true] (CX 20 yX)):=by
 refine Ek (yn i0).all (by kernel_rfl) (by kernel_rfl) (n:=BD A7) (by kernel_rfl) (fun _=>rfl) fun p rest os=>?_
 unfold yX;split
 ·rename_i L n Av ro;rintro⟨rfl,hk⟩;refine⟨BE (by kernel_rfl),fun objs hr=>?_⟩;obtain⟨⟨h0,h34⟩,h2⟩:=Wu L (.vec kI Av true) objs hr;refine⟨_,h2,?_⟩;have hrun:AX XR 22 A7 (fun v H=>sY (Ff Av L L.length) v (([20,22,23]++Au 4 v).map H.get)) (st A7 [At 20,Ao 21 Av.length] (hp [Uw 22 L.length,.vec kI Av true,.vec [.tok] (Ds 23 L.length) false,MA L])):=by
   refine Bq (uE i0) [] [20,22,23] xP vj (by kernel_rfl) (by decide) (fun _ _=>False) (fun c=>c=lR L (Ea L) Av (Ds 23 L.length) L.length 0) (fun v H h=>h.elim) (fun c h=>by rw[h];exact mC hk h0 h34 L.length 0 rfl (ay _)) (n:=300) ?_;rw[sL];(conv=>zeta);rw[jd]
   have:=hk.k0;have:=hk.k1;refine AB (KE (by show(L.length:Int) > 0;omega)) (AY (fun h=>absurd (show(Av.length:Int) < 1 from h) (by omega)) fun _=>AY (fun h=>absurd (show(Av.length:Int) > 34 from h) (by omega)) fun _=>⟨⟨rfl,hk.k0,by omega⟩,AY (fun h=>absurd (WR hk.k2) (by omega)) fun _=>AB (KE (by show(L.length:Int) > 0;omega)) ?_⟩);rfl
  refine Ak.mono (AX.Fh hrun) fun v H ⟨e,hq⟩=>?_
  subst e;obtain⟨g0,g1,g2,_⟩:=OW (t:=[]) (t2:=[]) (by rw[vf];exact hq);exact .here (QT (r:=22) (a:=23) (by rw[FY];exact h0) (by rw[FY];exact h34) ⟨by decide,g0,g1,g2⟩ rfl)
 ·trivial
theorem QO (L:List AS) (m:AS) (j:Nat) (s:Int) (l:Ad) (n:Nat) (Q:Bm):CU XD (Ax (cD m)) [(22,aX 23 j)] Br [20,22,23] 22 Q 300 (st Br [At 20,int s,Ao 21 n] (hp [Uw 22 L.length,.vec kB l true,.vec [.tok] (Ds 23 L.length) false,MA L]))=
 wb L 23 s j m (fun e=>Q (int e) (VF 22 23 L.length (Ea L))) (n<=l.length/\bif decide ((n:Int) > m.size - m.b.length)then(GD (.CJ m) (Ea L) ((Ea L).set j none) j/\Q (int 4) (VF 22 23 L.length ((Ea L).set j (some (.CJ m)))))else
  (GD (.CJ (FP m (l.take n))) (Ea L) ((Ea L).set j none) j/\Q (int 0) (VF 22 23 L.length ((Ea L).set j (some (.CJ (FP m (l.take n)))))))):=by kernel_rfl
theorem OJ (L:List AS) (m:AS) (j:Nat) (s o k:Int) (Q:Bm):CU XD (Ax (cD m)) [(21,aX 22 j)] CF [20,21,22] 21 Q 300 (st CF [At 20,int s,int o,int k] (pT L))=
 wb L 22 s j m (fun e=>Q (.tuple ⟨[.slice none 0 0,int e]⟩) (VF 21 22 L.length (Ea L))) (bif Ij m o k then(GD (.CJ m) (Ea L) ((Ea L).set j none) j/\Q (.tuple ⟨[.slice none 0 0,int 3]⟩) (VF 21 22 L.length ((Ea L).set j (some (.CJ m)))))else
  (GD (.CJ m) (Ea L) ((Ea L).set j none) j/\Q (.tuple ⟨[Ao 27 (Us m o k).length,int 0]⟩) (VF 21 22 L.length ((Ea L).set j (some (.CJ m)))++[some (.vec kB (Us m o k) false)]))):=by kernel_rfl
theorem Pt {L:List AS} {j:Nat} {m:AS} (h:L[j]? = some m):L.set j m=L:=by
 obtain⟨h1,h2⟩:=List.getElem?_eq_some_iff.1 h;rw[<-h2,yp]
def UZ:Gk:=fun p rest os=>match p,rest,os with
 | .Bw L,[.int .i64 s,.slice (some ⟨21,0,some 0⟩) n 18446744073709551616],[.vec [.int .u8] l _]=> .ask (n<=l.length) (.test (Ba L s) (.ret ⟨int 3,.Bw L,[]⟩)
  (.test (decide ((n:Int) > (L.getD s.toNat i0).size - (L.getD s.toNat i0).b.length)) (.ret ⟨int 4,.Bw L,[]⟩) (.ret ⟨int 0,.Bw (L.set s.toNat (FP (L.getD s.toNat i0) (l.take n))),[]⟩)))
 | _,_,_=> .fail
theorem eN:CY Tryz.prog AI Br (Ai AI 20 [true] (CX 20 UZ)):=by
 refine Ek (vn i0).all (by kernel_rfl) (by kernel_rfl) (n:=BD Br) (by kernel_rfl) (fun _=>rfl) fun p rest os=>?_
 unfold UZ;split
 ·rename_i L s n l ro;intro hn;have fin:∀{m:AS} {L':List AS} {e:Int},L'.length=L.length->0 < L.length/\L.length<=34->CU XD (Ax (cD m)) [(22,aX 23 s.toNat)] Br [20,22,23] 22 (fun w os=>w=int e/\os=VF 22 23 L.length (Ea L')) 300 (st Br [At 20,int s,Ao 21 n] (hp [Uw 22 L.length,.vec kB l true,.vec [.tok] (Ds 23 L.length) false,MA L]))->
   Ak XD 22 (fun b=>20<=b/\b < 22) Br (Told (fun b=>20<=b/\b < 22) fun v H=>HV AI 20 2 (.Bw L') (int e) [] v H) (st Br [At 20,int s,Ao 21 n] (hp [Uw 22 L.length,.vec kB l true,.vec [.tok] (Ds 23 L.length) false,MA L])):=by
   intro m L' e hl h0 hq;refine Ak.mono (AX.Fh (BK (iE m) (by kernel_rfl) hq)) fun w H ⟨e1,hq⟩=>?_
   subst e1;obtain⟨g0,g1,g2,_⟩:=OW (t:=[]) (t2:=[]) (by rw[vf];exact hq);exact .here (QT (r:=22) (a:=23) (by rw[hl];exact h0.1) (by rw[hl];exact h0.2) ⟨by decide,by rw[hl];exact g0,by rw[hl];exact g1,g2⟩ rfl)
  refine .test (fun hc=>?_) fun hc=> .test (fun hb=>?_) fun hb=>?_
  all_goals
   refine⟨BE (by kernel_rfl),fun objs hr=>?_⟩;obtain⟨h0,h2⟩:=Wu L (.vec kB l true) objs hr;refine⟨_,h2,?_⟩
  ·refine fin (m:=i0) rfl h0 ?_;rw[QO];exact Ua h0.1 (Q8 hc) ⟨rfl,rfl⟩
  all_goals
   obtain⟨k1,k2,k3⟩:=V9 hc
   change L[s.toNat]? = some (L.getD s.toNat i0)at k3
   generalize L.getD s.toNat i0=m at k3 hb ⊢
  ·refine fin (m:=m) rfl h0 ?_;rw[QO];exact Py k1 k2 k3 ⟨hn,AB hb ⟨⟨rfl,rfl⟩,rfl,by rw[Ko,Pt k3]⟩⟩
  ·refine fin (m:=m) (SB ..) h0 ?_;rw[QO];exact Py k1 k2 k3 ⟨hn,AZ hb ⟨⟨rfl,rfl⟩,rfl,by rw[Ko]⟩⟩
 ·trivial
def PY:Gk:=fun p rest os=>match p,rest,os with
 | .Bw L,[.int .i64 s,.int .i64 o,.int .i64 k],[]=> .test (Ba L s||Ij (L.getD s.toNat i0) o k) (.ret ⟨.tuple ⟨[.slice none 0 0,int 3]⟩,.Bw L,[]⟩) (.ret ⟨.tuple ⟨[Ao 21 (Us (L.getD s.toNat i0) o k).length,int 0]⟩,.Bw L,[.vec kB (Us (L.getD s.toNat i0) o k) false]⟩)
 | _,_,_=> .fail
theorem X7:CY Tryz.prog AI CF (Ai AI 20 [true] (CX 20 PY)):=by
 refine Ek (vn i0).all (by kernel_rfl) (by kernel_rfl) (n:=BD CF) (by kernel_rfl) (fun _=>rfl) fun p rest os=>?_
 unfold PY;split
 ·rename_i L s o k;refine .test (fun hc=>?_) fun hc=>?_
  all_goals
   refine⟨BE (by kernel_rfl),fun objs hr=>?_⟩;obtain⟨h0,h2⟩:=Tj L objs hr;refine⟨_,h2,?_⟩
  ·have hq:∃m,CU XD (Ax (cD m)) [(21,aX 22 s.toNat)] CF [20,21,22] 21 (fun w os=>w= .tuple ⟨[.slice none 0 0,int 3]⟩/\os=VF 21 22 L.length (Ea L)) 300 (st CF [At 20,int s,int o,int k] (pT L)):=by
    cases hb:Ba L s
    ·obtain⟨k1,k2,k3⟩:=V9 hb
     change L[s.toNat]? = some (L.getD s.toNat i0)at k3
     rw[hb,yW]at hc;refine⟨L.getD s.toNat i0,?_⟩;rw[OJ];exact Py k1 k2 k3 (AB hc ⟨⟨rfl,rfl⟩,rfl,by rw[Ko,Pt k3]⟩)
    ·refine⟨i0,?_⟩;rw[OJ];exact Ua h0.1 (Q8 hb) ⟨rfl,rfl⟩
   obtain⟨m,hq⟩:=hq;refine Ak.mono (AX.Fh (BK (iE m) (by kernel_rfl) hq)) fun w H ⟨e1,hq⟩=>?_
   subst e1;obtain⟨g0,g1,g2,_⟩:=OW (t:=[]) (t2:=[]) (by rw[vf];exact hq);exact .here (QT (r:=21) (a:=22) h0.1 h0.2 ⟨by decide,g0,g1,g2⟩ rfl)
  ·simp only[xp]at hc;obtain⟨k1,k2,k3⟩:=V9 hc.1
   change L[s.toNat]? = some (L.getD s.toNat i0)at k3
   have hr:=hc.2;generalize L.getD s.toNat i0=m at k3 hr ⊢;have hq:CU XD (Ax (cD m)) [(21,aX 22 s.toNat)] CF [20,21,22] 21 (fun w os=>w= .tuple ⟨[Ao 27 (Us m o k).length,int 0]⟩/\os=VF 21 22 L.length (Ea L)++[some (.vec kB (Us m o k) false)]) 300 (st CF [At 20,int s,int o,int k] (pT L)):=by
    rw[OJ];exact Py k1 k2 k3 (AZ hr ⟨⟨rfl,rfl⟩,rfl,by rw[Ko,Pt k3]⟩)
   refine Ak.mono (AX.Fh (BK (iE m) (by kernel_rfl) hq)) fun w H ⟨e1,hq⟩=>?_
   subst e1;obtain⟨g0,g1,g2,g3⟩:=OW (t:=[H.get 27]) (t2:=[some (.vec kB (Us m o k) false)]) hq;obtain⟨objs',q1,q2,q3,q4,q5,q6⟩:=Qz (b0:=20) (r:=21) (a:=22) (H:=H) h0.1 h0.2 ⟨by decide,g0,g1,g2⟩;simp only[Nh,iy]at g3;exact .here (Sc _ [27] q1 rfl q2 q3 q4 q5 q6 (by simp) (fun b hb=>by rw[Q4]at hb;rw[hb];decide) rfl ⟨⟨_,rfl,g3⟩,trivial⟩)
 ·trivial
theorem LL {laid:Co} {N:Nat} {muts:List Bool} {G G':AL->BN->GT} (h:∀a o x,(G' a o).run=some x->(G a o).run=some x) {args:AL} {H:AA} {r:Value × AA} (hF:Ai laid N muts G' args H=some r):Ai laid N muts G args H=some r:=by
 unfold Ai at hF ⊢;split at hF
 ·rename_i argsc objs h1 h2;cases hm:Iq muts H 0 (Cr H N 200 (args.flatMap (Au 4)) [])
  ·simp only[hm,EB]at hF;cases hF
  ·simp only[hm,C8]at hF ⊢;split at hF
   ·rename_i x hx;rw[h _ _ _ hx];exact hF
   ·cases hF
 ·cases hF
def J5 (t' t:PT):Prop:=∀y,t'.gt.run=some y->t.gt.run=some y
theorem Ci.ref {f:FuncId} {q q':Gk} {l:List GA} (h:CY Tryz.prog AI f (Ai AI 20 [true] (CX 20 q))) (hq:∀s rest os,J5 (q' s rest os) (q s rest os)) (t:Ci l):Ci ((f,Ai AI 20 [true] (CX 20 q),Cs AI 20 [true] (CX 20 q'))::l):=by
 refine .other h (fun X g hX args H K hk=>?_) t;have hctx:(⟨X.P,X.laid,fun _=>some (Ai AI 20 [true] (CX 20 q')),X.BJ⟩:Ctx).IN g=some (Ai AI 20 [true] (CX 20 q')):=rfl;obtain⟨v,H',h1,h2⟩:=Gq hctx hk;refine⟨v,H',?_,h2⟩;unfold CP at h1 ⊢;simp only[hX]at h1 ⊢;refine LL (fun a o x hx=>?_) h1;unfold CX at hx ⊢;split at hx
 ·rename_i b rest s ro os;cases hb:Nat.beq b 20
  ·simp only[hb,EB]at hx;cases hx
  ·simp only[hb,C8]at hx ⊢;exact hq _ _ _ _ hx
 ·cases hx
theorem K3 {t:PT}:J5 .fail t:=fun y h=>by cases h
theorem Mk {p:Prop} {a t:PT} (h:p->J5 a t):J5 (.ask p a) t:=fun y hy=>by
 simp only[PT.gt,GT.run]at hy;split at hy
 ·rename_i hp;exact h hp y hy
 ·cases hy
theorem dY {p:Prop} {a t:PT} (hp:p) (h:J5 t a):J5 t (.ask p a):=fun y hy=>by
 simp only[PT.gt,GT.run];rw[MB hp];exact h y hy
theorem YI {c:Bool} {a b t:PT} (hc:c=true) (h:J5 t a):J5 t (.test c a b):=fun y hy=>by
 simp only[PT.gt,GT.run,hc,C8];exact h y hy
theorem IG {c:Bool} {a b t:PT} (hc:c=false) (h:J5 t b):J5 t (.test c a b):=fun y hy=>by
 simp only[PT.gt,GT.run,hc,EB];exact h y hy
theorem ck {c:Bool} {a b t:PT} (h1:c=true->J5 a t) (h2:c=false->J5 b t):J5 (.test c a b) t:=fun y hy=>by
 cases c
 ·exact h2 rfl y hy
 ·exact h1 rfl y hy
theorem I7 {t:PT}:J5 t t:=fun _ h=>h
def fU (v:AS->Value):Gk:=fun p rest os=>match p,rest,os with
 | .Bw L,[.int .i64 s],[]=> .ask (Ba L s=false) (.ret ⟨v (L.getD s.toNat i0),.Bw L,[]⟩)
 | _,_,_=> .fail
theorem UO (bad:Value) (v:AS->Value):∀s rest os,J5 (fU v s rest os) (ar bad v id s rest os):=by
 intro s rest os;unfold fU;split
 ·rename_i L s;refine Mk fun h=>IG h ?_
  have e:L.set s.toNat (id (L.getD s.toNat i0))=L:=Pt (V9 h).2.2;have e2:L.set s.toNat (id (L.getD s.toNat ⟨0,0,[]⟩))=L:=e;rw[e2];exact I7
 ·exact K3
def xX (g:AS->AS):Gk:=fun p rest os=>match p,rest,os with
 | .Bw L,[.int .i64 s],[]=> .ask (Ba L s=false) (.ret ⟨int 0,.Bw (L.set s.toNat (g (L.getD s.toNat i0))),[]⟩)
 | _,_,_=> .fail
theorem jB (bad:Value) (g:AS->AS):∀s rest os,J5 (xX g s rest os) (ar bad (fun _=>int 0) g s rest os):=by
 intro s rest os;unfold xX;split
 ·exact Mk fun h=>IG h I7
 ·exact K3
def sb:Gk:=fun p rest os=>match p,rest,os with
 | .Bw L,[.int .i64 s,.slice (some ⟨21,0,some 0⟩) n 18446744073709551616],[.vec [.int .u8] l _]=> .ask (n<=l.length/\Ba L s=false/\(n:Int)<=(L.getD s.toNat i0).size - (L.getD s.toNat i0).b.length) (.ret ⟨int 0,.Bw (L.set s.toNat (FP (L.getD s.toNat i0) (l.take n))),[]⟩)
 | _,_,_=> .fail
theorem ng:∀s rest os,J5 (sb s rest os) (UZ s rest os):=by
 intro s rest os;unfold sb;split
 ·exact Mk fun h=>dY h.1 (IG h.2.1 (IG (MC (by omega)) I7))
 ·exact K3
def iY:Gk:=fun p rest os=>match p,rest,os with
 | .Bw L,[.int .i64 s,.int .i64 o,.int .i64 k],[]=> .ask (Ba L s=false) (.test (Ij (L.getD s.toNat i0) o k) (.ret ⟨.tuple ⟨[.slice none 0 0,int 3]⟩,.Bw L,[]⟩) (.ret ⟨.tuple ⟨[Ao 21 (Us (L.getD s.toNat i0) o k).length,int 0]⟩,.Bw L,[.vec kB (Us (L.getD s.toNat i0) o k) false]⟩))
 | _,_,_=> .fail
theorem fW:∀s rest os,J5 (iY s rest os) (PY s rest os):=by
 intro s rest os;unfold iY;split
 ·refine Mk fun h=>ck (fun hc=>YI (by rw[h,hc];rfl) I7) fun hc=>IG (by rw[h,hc];rfl) I7
 ·exact K3
def YR (f:FuncId) (q q':Gk):GA:=(f,Ai AI 20 [true] (CX 20 q),Cs AI 20 [true] (CX 20 q'))
def cV:List GA:=[YR Br UZ sb,YR JJ (ar (int 3) (fun _=>int 0) Cn) (xX Cn),YR CF PY iY,
 YR J0 (ar (DE 0 3) (fun m=>DE m.b.length 0) id) (fU fun m=>DE m.b.length 0),YR HX (ar (DE 0 3) (fun m=>DE m.Ej 0) id) (fU fun m=>DE m.Ej 0),YR JD (ar (DE 0 3) (fun m=>DE (m.size - m.b.length) 0) id) (fU fun m=>DE (m.size - m.b.length) 0),
 GQ A7 [true] (CX 20 yX),GQ BY [true] (CX 20 ig),GQ BM [true] (CX 20 kD),GQ Bd [true] (CX 20 uO)]
theorem okV:Ci cV:= .ref eN ng (.ref YQ (jB _ _) (.ref X7 fW (.ref du (UO _ _) (.ref cm (UO _ _) (.ref ZM (UO _ _) (.cons Vu (.cons fm (.cons kZ (.cons om .nil)))))))))
abbrev XV:Ctx:=Bp Tryz.prog AI (Cv cV)
def ND (a b:Nat) (s o:Int) (dn:Bool):AP:= .cells [At a,At b,int s,int o,.bool dn] 0 false
def Lv (s:Pk):AP:= .abs (.pack s) false
def lO (L:List AS) (q:Option BP) (s o:Int) (dn:Bool):AA:=hp [ND 21 22 s o dn,Lv (.Bw L),Lv (.timer q)]
def wI (l:Ad) (L:List AS) (q:Option BP) (s o:Int) (dn:Bool):AA:=hp [ND 22 23 s o dn,.vec kB l true,Lv (.Bw L),Lv (.timer q)]
theorem cH (L:List AS) (p:BP) (s o:Int) (dn:Bool) (i:Int) (l:Ad) (n:Nat) (Q:Bm):CU XV (Ax cV) [] By [20,22,23] 22 Q 400 (st By [At 20,int i,Ao 21 n] (wI l L (some p) s o dn))=(
 let k:=int (IntKind.wrap .i64 (o+1));let j:=BP.Av p;let e:AP:= .abs (Ct.pack (Pk.Bw L)) false;let d:AP:= .abs (Ct.pack (Pk.timer (some p))) false;let c:=List.getD L i.toNat i0;let h:=((AS.b c).length:Int);let g:=List.set L i.toNat (FP c (List.take n l));let f:=n<=l.length/\Ba L i=false/\(n:Int)<=AS.size c - h;let a:AP:= .cells [(At 22),(At 23),(int s),(int o),(.bool dn)] 0 false;let m:Prop:=Q (int 3) [some a,some e,some d];(bif decide (s > 0)then(bif dn then(Q (int 13) [some a,some e,some d])else(bif decide (i < 0)then m else(bif decide (i≥IntKind.wrap .i64 (s+2))then m else((Bool.rec (decide (i≥(L.length:Int))) true (decide (i < 0)))=(false))/\(((int 0):Value)=(int 0))/\(bif decide (Int.ofNat n > AS.size c - h)then(Q (int 4) [some a,some (.abs (Ct.pack (PL.nx { v:=DE (AS.size c - h) 0,nx:=Pk.Bw L,news:=[] })) false),some d])else(bif decide (1 < BP.at_ p)then f/\(Q (int 0) [some (.cells [(At 22),(At 23),(int s),k,(.bool dn)] 0 false),some (.abs (Ct.pack (PL.nx { v:=int 0,nx:=Pk.Bw g,news:=[] })) false),some (.abs (Ct.pack (PL.nx { v:=Value.bool false,nx:=Pk.timer (some { at_:=BP.at_ p - 1,done:=BP.done p,Av:=BP.Av p }),news:=[] })) false)])else f/\(j.length=j.length/\KM j)/\(Q (int 13) [some (.cells [(At 22),(At 23),(int s),k,(.bool true)] 0 false),some (.abs (Ct.pack (PL.nx { v:=int 0,nx:=Pk.Bw (Ff j g g.length),news:=[] })) false),some (.abs (Ct.pack (PL.nx { v:=Value.bool true,nx:=Pk.timer none,news:=[] })) false)]))))))else(Q (int 1) [some a,some e,some d]))):=by kernel_rfl
theorem kE (L:List AS) (q:Option BP) (s o:Int) (dn:Bool) (i:Int) (Q:Bm):CU XV (Ax cV) [] B0 [20,21,22] 21 Q 400 (st B0 [At 20,int i] (lO L q s o dn))=(
 let g:=List.getD L i.toNat i0;let e:=(Bool.rec (decide (i≥(L.length:Int))) true (decide (i < 0)))=(false);let d:AP:= .abs (Ct.pack (Pk.Bw L)) false;let c:AP:= .abs (Ct.pack (Pk.timer q)) false;let a:AP:= .cells [(At 21),(At 22),(int s),(int o),(.bool dn)] 0 false;let f:Prop:=Q (.tuple ⟨[(int 0),(int 3)]⟩) [some a,some d,some c];(bif decide (s > 0)then(bif dn then(Q (.tuple ⟨[(int 0),(int 13)]⟩) [some a,some d,some c])else(bif decide (i < 0)then f else(bif decide (i≥IntKind.wrap .i64 (s+2))then f else e/\e/\(Q (.tuple ⟨[(int (IntKind.wrap .i64 (((AS.b g).length:Int) - AS.Ej g))),(int 0)]⟩) [some a,some (.abs (Ct.pack (PL.nx { v:=DE (AS.Ej g) 0,nx:=Pk.Bw L,news:=[] })) false),some c]))))else(Q (.tuple ⟨[(int 0),(int 1)]⟩) [some a,some d,some c]))):=by kernel_rfl
theorem Sk (L:List AS) (q:Option BP) (s o:Int) (dn:Bool) (i a k:Int) (Q:Bm):CU XV (Ax cV) [] Cb [20,21,22] 21 Q 400 (st Cb [At 20,int i,int a,int k] (lO L q s o dn))=(
 let h:=List.getD L i.toNat i0;let g:Value:= .slice none 0 0;let j:Value:= .tuple ⟨[g,(int 3)]⟩;let f:AP:= .abs (Ct.pack (Pk.Bw L)) false;let e:=Us h a k;let c:AP:= .abs (Ct.pack (Pk.timer q)) false;let b:AP:= .cells [(At 21),(At 22),(int s),(int o),(.bool dn)] 0 false;let d:Prop:=Q j [some b,some f,some c];(bif decide (s > 0)then(bif dn then(Q (.tuple ⟨[g,(int 13)]⟩) [some b,some f,some c])else(bif decide (i < 0)then d else(bif decide (i≥IntKind.wrap .i64 (s+2))then d else((Bool.rec (decide (i≥(L.length:Int))) true (decide (i < 0)))=(false))/\(bif Ij h a k then(Q j [some b,some (.abs (Ct.pack (PL.nx { v:=Value.tuple { toList:=[Value.slice none 0 0,int 3] },nx:=Pk.Bw L,news:=[] })) false),some c])else(Q (.tuple ⟨[(Ao 23 e.length),(int 0)]⟩) [some b,some (.abs (Ct.pack (PL.nx { v:=Value.tuple { toList:=[Ao 21 e.length,int 0] },nx:=Pk.Bw L,news:=[AP.vec kB e false] })) false),some c,some (.vec ([SK.int IntKind.u8]) e false)])))))else(Q (.tuple ⟨[g,(int 1)]⟩) [some b,some f,some c]))):=by kernel_rfl
theorem bu (L:List AS) (s o:Int) (dn:Bool) (i:Int) (l:Ad) (n:Nat) (Q:Bm):CU XV (Ax cV) [] By [20,22,23] 22 Q 400 (st By [At 20,int i,Ao 21 n] (wI l L none s o dn))=(
 let e:AP:= .abs (Ct.pack (Pk.Bw L)) false;let d:=List.getD L i.toNat i0;let f:=((AS.b d).length:Int);let c:AP:= .abs (Ct.pack (Pk.timer none)) false;let a:AP:= .cells [(At 22),(At 23),(int s),(int o),(.bool dn)] 0 false;let g:Prop:=Q (int 3) [some a,some e,some c];(bif decide (s > 0)then(bif dn then(Q (int 13) [some a,some e,some c])else(bif decide (i < 0)then g else(bif decide (i≥IntKind.wrap .i64 (s+2))then g else((Bool.rec (decide (i≥(L.length:Int))) true (decide (i < 0)))=(false))/\(((int 0):Value)=(int 0))/\(bif decide (Int.ofNat n > AS.size d - f)then(Q (int 4) [some a,some (.abs (Ct.pack (PL.nx { v:=DE (AS.size d - f) 0,nx:=Pk.Bw L,news:=[] })) false),some c])else(n<=l.length/\Ba L i=false/\(n:Int)<=AS.size d - f)/\(Q (int 0) [some (.cells [(At 22),(At 23),(int s),(int (IntKind.wrap .i64 (o+1))),(.bool dn)] 0 false),some (.abs (Ct.pack (PL.nx { v:=int 0,nx:=Pk.Bw (List.set L i.toNat (FP d (List.take n l))),news:=[] })) false),some (.abs (Ct.pack (PL.nx { v:=Value.bool false,nx:=Pk.timer none,news:=[] })) false)])))))else(Q (int 1) [some a,some e,some c]))):=by kernel_rfl
theorem Y2 (L:List AS) (s o:Int) (dn:Bool) (i:Int) (Q:Bm):CU XV (Ax cV) [] CI [20,21,22] 21 Q 400 (st CI [At 20,int i] (lO L none s o dn))=(
 let c:AP:= .abs (Ct.pack (Pk.Bw L)) false;let b:AP:= .abs (Ct.pack (Pk.timer none)) false;let a:AP:= .cells [(At 21),(At 22),(int s),(int o),(.bool dn)] 0 false;let d:Prop:=Q (int 3) [some a,some c,some b];(bif decide (s > 0)then(bif dn then(Q (int 13) [some a,some c,some b])else(bif decide (i < 0)then d else(bif decide (i≥IntKind.wrap .i64 (s+2))then d else((Bool.rec (decide (i≥(L.length:Int))) true (decide (i < 0)))=(false))/\(Q (int 0) [some (.cells [(At 21),(At 22),(int s),(int (IntKind.wrap .i64 (o+1))),(.bool dn)] 0 false),some (.abs (Ct.pack (PL.nx { v:=int 0,nx:=Pk.Bw (List.set L i.toNat (Cn (List.getD L i.toNat i0))),news:=[] })) false),some (.abs (Ct.pack (PL.nx { v:=Value.bool false,nx:=Pk.timer none,news:=[] })) false)]))))else(Q (int 1) [some a,some c,some b]))):=by kernel_rfl
theorem YW (L:List AS) (p:BP) (s o:Int) (dn:Bool) (i:Int) (Q:Bm):CU XV (Ax cV) [] CI [20,21,22] 21 Q 400 (st CI [At 20,int i] (lO L (some p) s o dn))=(
 let e:=int (IntKind.wrap .i64 (o+1));let d:=BP.Av p;let c:AP:= .abs (Ct.pack (Pk.Bw L)) false;let b:AP:= .abs (Ct.pack (Pk.timer (some p))) false;let a:AP:= .cells [(At 21),(At 22),(int s),(int o),(.bool dn)] 0 false;let f:Prop:=Q (int 3) [some a,some c,some b];(bif decide (s > 0)then(bif dn then(Q (int 13) [some a,some c,some b])else(bif decide (i < 0)then f else(bif decide (i≥IntKind.wrap .i64 (s+2))then f else(bif decide (1 < BP.at_ p)then((Bool.rec (decide (i≥(L.length:Int))) true (decide (i < 0)))=(false))/\(Q (int 0) [some (.cells [(At 21),(At 22),(int s),e,(.bool dn)] 0 false),some (.abs (Ct.pack (PL.nx { v:=int 0,nx:=Pk.Bw (List.set L i.toNat (Cn (List.getD L i.toNat i0))),news:=[] })) false),some (.abs (Ct.pack (PL.nx { v:=Value.bool false,nx:=Pk.timer (some { at_:=BP.at_ p - 1,done:=BP.done p,Av:=BP.Av p }),news:=[] })) false)])else(d.length=d.length/\KM d)/\(Q (int 13) [some (.cells [(At 21),(At 22),(int s),e,(.bool true)] 0 false),some (.abs (Ct.pack (PL.nx { v:=int 0,nx:=Pk.Bw (Ff d L L.length),news:=[] })) false),some (.abs (Ct.pack (PL.nx { v:=Value.bool true,nx:=Pk.timer none,news:=[] })) false)])))))else(Q (int 1) [some a,some c,some b]))):=by kernel_rfl
theorem iV (L:List AS) (q:Option BP) (s o:Int) (dn:Bool) (i:Int) (Q:Bm):CU XV (Ax cV) [] DQ [20,21,22] 21 Q 400 (st DQ [At 20,int i] (lO L q s o dn))=(
 let f:=((AS.b (List.getD L i.toNat i0)).length:Int);let d:AP:= .abs (Ct.pack (Pk.Bw L)) false;let c:AP:= .abs (Ct.pack (Pk.timer q)) false;let a:AP:= .cells [(At 21),(At 22),(int s),(int o),(.bool dn)] 0 false;let e:Prop:=Q (.tuple ⟨[(int 0),(int 3)]⟩) [some a,some d,some c];(bif decide (s > 0)then(bif dn then(Q (.tuple ⟨[(int 0),(int 13)]⟩) [some a,some d,some c])else(bif decide (i < 0)then e else(bif decide (i≥IntKind.wrap .i64 (s+2))then e else((Bool.rec (decide (i≥(L.length:Int))) true (decide (i < 0)))=(false))/\(Q (.tuple ⟨[(int f),(int 0)]⟩) [some a,some (.abs (Ct.pack (PL.nx { v:=DE f 0,nx:=Pk.Bw L,news:=[] })) false),some c]))))else(Q (.tuple ⟨[(int 0),(int 1)]⟩) [some a,some d,some c]))):=by kernel_rfl
theorem bf (L:List AS) (q:Option BP) (s o:Int) (dn:Bool) (Q:Bm):CU XV (Ax cV) [] Di [20,21,22] 21 Q 400 (st Di [At 20] (lO L q s o dn))=(
 let d:AP:= .abs (Ct.pack (Pk.Bw L)) false;let c:AP:= .abs (Ct.pack (Pk.timer q)) false;let b:AP:= .cells [(At 21),(At 22),(int s),(int o),(.bool dn)] 0 false;let a:Prop:=Q (.bool false) [some b,some d,some c];(bif decide (s > 0)then(bif dn then(Q (.bool true) [some b,some d,some c])else a)else a)):=by kernel_rfl
theorem k8 (L:List AS) (q:Option BP) (s o:Int) (dn:Bool) (Q:Bm):CU XV (Ax cV) [] FL [20,21,22] 21 Q 400 (st FL [At 20] (lO L q s o dn))=(
 let c:AP:= .abs (Ct.pack (Pk.Bw L)) false;let b:AP:= .abs (Ct.pack (Pk.timer q)) false;let a:AP:= .cells [(At 21),(At 22),(int s),(int o),(.bool dn)] 0 false;(bif decide (s > 0)then(Q (int o) [some a,some c,some b])else(Q (int 0) [some a,some c,some b]))):=by kernel_rfl
theorem YL (L:List AS) (q:Option BP) (s o:Int) (dn:Bool) (Q:Bm):CU XV (Ax cV) [] DT [20,21,22] 21 Q 400 (st DT [At 20] (lO L q s o dn))=(
 let c:AP:= .abs (Ct.pack (Pk.Bw L)) false;let b:AP:= .abs (Ct.pack (Pk.timer q)) false;let a:AP:= .cells [(At 21),(At 22),(int s),(int o),(.bool dn)] 0 false;(bif decide (s > 0)then(Q (int s) [some a,some c,some b])else(Q (int 0) [some a,some c,some b]))):=by kernel_rfl
def J3 (o:Int):Int:=IntKind.wrap .i64 (o+1)
def Lp (d:Ab) (i:Int):Int:=bif d.down then 13 else bif Ba d.BB i then 3 else 0
def MZ (d:Ab) (g:List AS->List AS) (dn:BP->Bool):Int × Ab:=
 match d.BJ with
 | none=>(0,⟨g d.BB,none,d.AR,J3 d.ops,d.down⟩)
 | some p=>bif decide (1 < p.at_)then(0,⟨g d.BB,some ⟨p.at_ - 1,p.done,p.Av⟩,d.AR,J3 d.ops,d.down⟩)
  else(13,⟨bif dn p then Ff p.Av (g d.BB) (g d.BB).length else Ff p.Av d.BB d.BB.length,none,d.AR,J3 d.ops,true⟩)
def D6 (g:AS->AS) (i:Int) (L:List AS):List AS:=L.set i.toNat (g (L.getD i.toNat i0))
def Ma (d:Ab) (i:Int) (g:AS->AS) (dn:BP->Bool):Int × Ab:=
 bif d.down then(13,d)else bif Ba d.BB i then(3,d)else MZ d (D6 g i) dn
def Gw (d:Ab) (i:Int):Int:=(d.BB.getD i.toNat i0).size - (d.BB.getD i.toNat i0).b.length
def DX (d:Ab) (i:Int) (l:Ad):Int × Ab:=
 bif d.down then(13,d)else bif Ba d.BB i then(3,d)else bif decide ((l.length:Int) > Gw d i)then(4,d)else MZ d (D6 (fun m=>FP m l) i) fun _=>true
theorem Gl (g:AS->AS) (i:Int) (L:List AS):(D6 g i L).length=L.length:=by unfold D6;rw[SB]
theorem aL {d:Ab} (h:FQ d) {g:List AS->List AS} (hg:∀L,(g L).length=L.length) (dn:BP->Bool):FQ (MZ d g dn).2:=by
 obtain⟨h0,h1,h2,h3⟩:=h;unfold MZ;split
 ·exact⟨h0,h1,by show((g d.BB).length:Int)=_;rw[hg];exact h2,fun p hp=>by cases hp⟩
 ·rename_i p hp;obtain⟨a0,a1,k0,k1,k2⟩:=h3 p hp;cases hc:decide (1 < p.at_)
  ·cases dn p
   ·exact⟨h0,h1,by show((Ff p.Av d.BB d.BB.length).length:Int)=_;rw[FY];exact h2,fun p hp=>by cases hp⟩
   ·exact⟨h0,h1,by show((Ff p.Av (g d.BB) (g d.BB).length).length:Int)=_;rw[FY,hg];exact h2,fun p hp=>by cases hp⟩
  ·have hc:=rM hc;exact⟨h0,h1,by show((g d.BB).length:Int)=_;rw[hg];exact h2,fun p' hp'=>by
    injection hp' with e;subst e
    exact⟨by show 0 < p.at_ - 1;omega,by show p.at_ - 1<=1000000;omega,k0,k1,k2⟩⟩
theorem nR {d:Ab} (h:FQ d) (i:Int) (g:AS->AS) (dn:BP->Bool):FQ (Ma d i g dn).2:=by
 unfold Ma;cases d.down
 ·cases Ba d.BB i
  ·exact aL h (Gl g i) dn
  ·exact h
 ·exact h
theorem gC {d:Ab} (h:FQ d) (i:Int) (l:Ad):FQ (DX d i l).2:=by
 unfold DX;cases d.down
 ·cases Ba d.BB i
  ·cases decide ((l.length:Int) > Gw d i)
   ·exact aL h (Gl _ i) _
   ·exact h
  ·exact h
 ·exact h
def eH (d:Ab):AA:=lO d.BB d.BJ d.AR d.ops d.down
def eh (a b:Nat) (d:Ab):LR:=[some (ND a b d.AR d.ops d.down),some (Lv (.Bw d.BB)),some (Lv (.timer d.BJ))]
theorem Qx {ρ:Ren} {a b:Nat} (ha:ρ 1=some a) (hb:ρ 2=some b) (s o:Int) (dn:Bool):BV ρ (.cells [.pointer (some ⟨1,0,none⟩),.pointer (some ⟨2,0,none⟩),.int .i64 s,.int .i64 o,.bool dn] 0 false)=some (ND a b s o dn):=by
 have e1:Dr ρ (.pointer (some ⟨1,0,none⟩))=some (At a):=by
  show(Je ρ ⟨1,_,_⟩).map (fun a=>Value.pointer (some a))=_;simp only[Je,ha];rfl
 have e2:Dr ρ (.pointer (some ⟨2,0,none⟩))=some (At b):=by
  show(Je ρ ⟨2,_,_⟩).map (fun a=>Value.pointer (some a))=_;simp only[Je,hb];rfl
 show(DB (Dr ρ) _).map _=_;simp only[DB,e1,e2];rfl
theorem NI (d:Ab) (objs:BN) (hr:Bx (.dev d) objs):FQ d/\FB (DH ⟨.leaf,20⟩ [.abs (.pack (.dev d)) false]) 20 false objs (eH d) []:=by
 cases hr with
 | dev _ h=>
  refine⟨h,?_⟩;have:=GJ (N:=20) (s:= .dev d) (os:=[]) (o:= .cells [.pointer (some ⟨1,0,none⟩),.pointer (some ⟨2,0,none⟩),.int .i64 d.AR,.int .i64 d.ops,.bool d.down] 0 false) (o1:=ND 21 22 d.AR d.ops d.down) (ps:=[Lv (.Bw d.BB),Lv (.timer d.BJ)]) (ps1:=[Lv (.Bw d.BB),Lv (.timer d.BJ)]) rfl (Qx (by rfl) (by rfl) _ _ _) (two (by rfl) (by rfl));have e:D7 ((DH ⟨.leaf,20⟩ [.abs (.pack (.dev d)) false]).put 20 (ND 21 22 d.AR d.ops d.down)) [Lv (.Bw d.BB),Lv (.timer d.BJ)]=eH d:=by kernel_rfl
  rw[e]at this;exact this
theorem W7 (d:Ab) (o:AP) (objs:BN) (hr:Bx (.dev d) objs):FQ d/\FB (DH ⟨.leaf,20⟩ [.abs (.pack (.dev d)) false,o]) 20 false objs (hp [ND 22 23 d.AR d.ops d.down,o,Lv (.Bw d.BB),Lv (.timer d.BJ)]) []:=by
 cases hr with
 | dev _ h=>
  refine⟨h,?_⟩;have:=GJ (N:=20) (s:= .dev d) (os:=[o]) (o:= .cells [.pointer (some ⟨1,0,none⟩),.pointer (some ⟨2,0,none⟩),.int .i64 d.AR,.int .i64 d.ops,.bool d.down] 0 false) (o1:=ND 22 23 d.AR d.ops d.down) (ps:=[Lv (.Bw d.BB),Lv (.timer d.BJ)]) (ps1:=[Lv (.Bw d.BB),Lv (.timer d.BJ)]) rfl (Qx (by rfl) (by rfl) _ _ _) (two (by rfl) (by rfl));have e:D7 ((DH ⟨.leaf,20⟩ [.abs (.pack (.dev d)) false,o]).put 20 (ND 22 23 d.AR d.ops d.down)) [Lv (.Bw d.BB),Lv (.timer d.BJ)]=hp [ND 22 23 d.AR d.ops d.down,o,Lv (.Bw d.BB),Lv (.timer d.BJ)]:=by kernel_rfl
  rw[e]at this;exact this
theorem ej {j a b:Nat} {d:Ab} {H:AA} {v:Value} (hd:FQ d) (hn:[20,a,b].Nodup) (h:[H.get 20,H.get a,H.get b]=eh a b d) (hv:Cu 6 v=true):HV AI 20 j (.dev d) v [] v H:=by
 simp only[eh,Nh,iy]at h;obtain⟨g0,g1,g2⟩:=h;have hn':=hn;simp only[lW,Ul,bG,vK,AAq]at hn';obtain⟨⟨n1,n2⟩,n3,-⟩:=hn';refine Sc [20,a,b] [] (.dev d hd) rfl rfl hn (fun x hx=>?_) ⟨⟨_,g0,rfl,rfl,?_⟩,⟨_,g1,rfl,rfl,by rfl⟩,⟨_,g2,rfl,rfl,by rfl⟩,trivial⟩ (fun o T ho=>by cases ho;exact id) dG (fun b hb=>by cases hb) (J8 6 v hv) trivial
 ·simp only[Ul,bG,vK]at hx;rcases hx with rfl | rfl | rfl
  ·exact .here (by simp)
  ·exact .next (.here (by simp)) g0 (by simp[IK,Au,At,ND])
  ·exact .next (.here (by simp)) g0 (by simp[IK,Au,At,ND])
 ·exact Qx (by rfl) (by rfl) _ _ _
theorem tw:HO XV (Ax cV):=okV.pf
theorem Qh {f:FuncId} {args:AL} {d d':Ab} {v:Value} (hd:FQ d') (hv:Cu 6 v=true) (hq:CU XV (Ax cV) [] f [20,21,22] 21 (fun w os=>w=v/\os=eh 21 22 d') 400 (st f args (eH d))):
 Ak XV 21 (fun b=>20<=b/\b < 21) f (Told (fun b=>20<=b/\b < 21) fun w H=>HV AI 20 1 (.dev d') v [] w H) (st f args (eH d)):=by
 refine Ak.mono (AX.Fh (BK tw (by kernel_rfl) hq)) fun w H ⟨e,hos⟩=>?_
 subst e;simp only[eh,Sm,sK,ic,Nh]at hos;obtain⟨g0,g1,g2,_⟩:=hos;exact .here (ej (a:=21) (b:=22) hd (by decide) (by rw[g0,g1,g2];rfl) hv)
theorem aM {f:FuncId} {args:AL} {d d':Ab} {o:AP} {v:Value} (hd:FQ d') (hv:Cu 6 v=true) (hq:CU XV (Ax cV) [] f [20,22,23] 22 (fun w os=>w=v/\os=eh 22 23 d') 400 (st f args (hp [ND 22 23 d.AR d.ops d.down,o,Lv (.Bw d.BB),Lv (.timer d.BJ)]))):
 Ak XV 22 (fun b=>20<=b/\b < 22) f (Told (fun b=>20<=b/\b < 22) fun w H=>HV AI 20 2 (.dev d') v [] w H) (st f args (hp [ND 22 23 d.AR d.ops d.down,o,Lv (.Bw d.BB),Lv (.timer d.BJ)])):=by
 refine Ak.mono (AX.Fh (BK tw (by kernel_rfl) hq)) fun w H ⟨e,hos⟩=>?_
 subst e;simp only[eh,Sm,sK,ic,Nh]at hos;obtain⟨g0,g1,g2,_⟩:=hos;exact .here (ej (a:=22) (b:=23) hd (by decide) (by rw[g0,g1,g2];rfl) hv)
theorem Kc {L:List AS} {q:Option BP} {s o:Int} {dn:Bool} (hd:FQ ⟨L,q,s,o,dn⟩) {i:Int} {A B K E:Prop} (h13:dn=true->A) (h3:dn=false->Ba L i=true->B) (hK:dn=false->Ba L i=false->K):
 (bif decide (s > 0)then(bif dn then A else(bif decide (i < 0)then B else(bif decide (i≥IntKind.wrap .i64 (s+2))then B else K)))else E):=by
 obtain⟨h0,h1,h2,-⟩:=hd
 change 2<=s at h0
 change s<=32 at h1
 change (L.length:Int)=s+2 at h2
 have hw:IntKind.wrap .i64 (s+2)=s+2:=Jy (by omega) (by omega);refine AB (KE (by omega)) ?_;cases dn
 ·refine AY (fun h=>h3 rfl (by unfold Ba;rw[KE h,Bool.true_or])) fun g1=>AY (fun h=>h3 rfl (by unfold Ba;rw[hw]at h;rw[KE (p:=i≥(L.length:Int)) (by omega),Bool.or_true])) fun g2=>hK rfl ?_
  rw[hw]at g2;unfold Ba;rw[MC g1,MC (p:=i≥(L.length:Int)) (by omega)];rfl
 ·exact h13 rfl
theorem FO {L:List AS} {i:Int} (h:Ba L i=false):(Bool.rec (motive:=fun _=>Bool) (decide (i≥((List.length L):Int))) true (decide (i < 0)))=false:=by
 unfold Ba at h;cases hc:decide (i < 0)<;>simp only[hc,Bool.true_or,yW]at h ⊢
 ·exact h
 ·cases h
theorem bS {L:List AS} {p:BP} {s o:Int} {dn:Bool} (hd:FQ ⟨L,some p,s,o,dn⟩):KM p.Av:=by
 obtain⟨a0,a1,k0,k1,k2⟩:=hd.BJ p rfl;exact⟨k0,k1,fun x hx=>(k2 x hx).1⟩
theorem bC {d:Ab} {i:Int} {g:AS->AS} {dn:BP->Bool} (h:d.down=true):Ma d i g dn=(13,d):=by unfold Ma;rw[h];rfl
theorem VG {d:Ab} {i:Int} {g:AS->AS} {dn:BP->Bool} (h:d.down=false) (h2:Ba d.BB i=true):Ma d i g dn=(3,d):=by unfold Ma;rw[h,h2];rfl
theorem NK {d:Ab} {i:Int} {g:AS->AS} {dn:BP->Bool} (h:d.down=false) (h2:Ba d.BB i=false):Ma d i g dn=MZ d (D6 g i) dn:=by unfold Ma;rw[h,h2];rfl
def TB (g:AS->AS) (dn:BP->Bool):Gk:=fun p rest os=>match p,rest,os with
 | .dev d,[.int .i64 i],[]=> .ret ⟨int (Ma d i g dn).1,.dev (Ma d i g dn).2,[]⟩
 | _,_,_=> .fail
theorem TT {L:List AS} {p:BP} {s o:Int} {dn:Bool} {g:List AS->List AS} {f:BP->Bool} (h:1 < p.at_):MZ ⟨L,some p,s,o,dn⟩ g f=(0,⟨g L,some ⟨p.at_ - 1,p.done,p.Av⟩,s,J3 o,dn⟩):=by
 show(bif decide (1 < p.at_)then _ else _)=_;rw[KE h];rfl
theorem V7 {L:List AS} {p:BP} {s o:Int} {dn:Bool} {g:List AS->List AS} {f:BP->Bool} (h:¬1 < p.at_):MZ ⟨L,some p,s,o,dn⟩ g f=(13,⟨bif f p then Ff p.Av (g L) (g L).length else Ff p.Av L L.length,none,s,J3 o,true⟩):=by
 show(bif decide (1 < p.at_)then _ else _)=_;rw[MC h];rfl
theorem RE:CY Tryz.prog AI CI (Ai AI 20 [true] (CX 20 (TB Cn fun _=>false))):=by
 refine Ek okV.all (by kernel_rfl) (by kernel_rfl) (n:=BD CI) (by kernel_rfl) (fun _=>rfl) fun p rest os=>?_
 unfold TB;split
 ·rename_i d i;refine⟨BE (by kernel_rfl),fun objs hr=>?_⟩;obtain⟨hd,ho⟩:=NI d objs hr;refine⟨_,ho,Qh (nR hd ..) rfl ?_⟩;obtain⟨L,q,s,o,dn⟩:=d;cases q with
  | none=>
   refine(Y2 L s o dn i _).mpr ?_;refine Kc hd (fun h=>?_) (fun h h2=>?_) fun h h2=>⟨FO h2,?_⟩
   ·rw[bC h];exact⟨rfl,rfl⟩
   ·rw[VG h h2];exact⟨rfl,rfl⟩
   ·rw[NK h h2];exact⟨rfl,rfl⟩
  | some p=>
   refine(YW L p s o dn i _).mpr ?_;refine Kc hd (fun h=>?_) (fun h h2=>?_) fun h h2=>AY (fun g=>⟨FO h2,?_⟩) fun g=>?_
   ·rw[bC h];exact⟨rfl,rfl⟩
   ·rw[VG h h2];exact⟨rfl,rfl⟩
   ·rw[NK h h2,TT g];exact⟨rfl,rfl⟩
   ·rw[NK h h2,V7 g];exact⟨⟨rfl,bS hd⟩,rfl,rfl⟩
 ·trivial
def Pv:Gk:=fun p rest os=>match p,rest,os with
 | .dev d,[.int .i64 i,.slice (some ⟨21,0,some 0⟩) n 18446744073709551616],[.vec [.int .u8] l _]=> .ask (n<=l.length) (.ret ⟨int (DX d i (l.take n)).1,.dev (DX d i (l.take n)).2,[]⟩)
 | _,_,_=> .fail
theorem Vn {d:Ab} {i:Int} {l:Ad} (h:d.down=true):DX d i l=(13,d):=by unfold DX;rw[h];rfl
theorem Sf {d:Ab} {i:Int} {l:Ad} (h:d.down=false) (h2:Ba d.BB i=true):DX d i l=(3,d):=by unfold DX;rw[h,h2];rfl
theorem MD {d:Ab} {i:Int} {l:Ad} (h:d.down=false) (h2:Ba d.BB i=false) (h3:(l.length:Int) > Gw d i):DX d i l=(4,d):=by unfold DX;rw[h,h2,KE h3];rfl
theorem NX {d:Ab} {i:Int} {l:Ad} (h:d.down=false) (h2:Ba d.BB i=false) (h3:¬(l.length:Int) > Gw d i):DX d i l=MZ d (D6 (fun m=>FP m l) i) fun _=>true:=by unfold DX;rw[h,h2,MC h3];rfl
theorem Sl:CY Tryz.prog AI By (Ai AI 20 [true] (CX 20 Pv)):=by
 refine Ek okV.all (by kernel_rfl) (by kernel_rfl) (n:=BD By) (by kernel_rfl) (fun _=>rfl) fun p rest os=>?_
 unfold Pv;split
 ·rename_i d i n l ro;intro hn;refine⟨BE (by kernel_rfl),fun objs hr=>?_⟩;obtain⟨hd,ho⟩:=W7 d (.vec kB l true) objs hr;refine⟨_,ho,aM (gC hd ..) rfl ?_⟩;have hl:(l.take n).length=n:=by rw[Rg];omega
  obtain⟨L,q,s,o,dn⟩:=d;cases q with
  | none=>
   refine(bu L s o dn i l n _).mpr ?_;refine Kc hd (fun h=>?_) (fun h h2=>?_) fun h h2=>⟨FO h2,rfl,AY (fun g=>?_) fun g=>⟨⟨hn,h2,by have g:¬(n:Int) > _:=g;omega⟩,?_⟩⟩
   ·rw[Vn h];exact⟨rfl,rfl⟩
   ·rw[Sf h h2];exact⟨rfl,rfl⟩
   ·rw[MD h h2 (by rw[hl];exact g)];exact⟨rfl,rfl⟩
   ·rw[NX h h2 (by rw[hl];exact g)];exact⟨rfl,rfl⟩
  | some p=>
   refine(cH L p s o dn i l n _).mpr ?_;refine Kc hd (fun h=>?_) (fun h h2=>?_) fun h h2=>⟨FO h2,rfl,AY (fun g=>?_) fun g=>AY (fun g2=>⟨⟨hn,h2,by have g:¬(n:Int) > _:=g;omega⟩,?_⟩) fun g2=>⟨⟨hn,h2,by have g:¬(n:Int) > _:=g;omega⟩,⟨rfl,bS hd⟩,?_⟩⟩
   ·rw[Vn h];exact⟨rfl,rfl⟩
   ·rw[Sf h h2];exact⟨rfl,rfl⟩
   ·rw[MD h h2 (by rw[hl];exact g)];exact⟨rfl,rfl⟩
   ·rw[NX h h2 (by rw[hl];exact g),TT g2];exact⟨rfl,rfl⟩
   ·rw[NX h h2 (by rw[hl];exact g),V7 g2];exact⟨rfl,rfl⟩
 ·trivial
theorem kH {a b:Nat} {d:Ab} {H:AA} (hd:FQ d) (hn:[20,a,b].Nodup) (h:[H.get 20,H.get a,H.get b]=eh a b d):∃objs,Bx (.dev d) objs/\[20,a,b][0]? = some 20/\[20,a,b].Nodup/\(∀x∈[20,a,b],JW H [20] x)/\Ft [20,a,b] H [20,a,b] objs/\(∀o T,objs[0]? = some o->¬o.void T):=by
 simp only[eh,Nh,iy]at h;obtain⟨g0,g1,g2⟩:=h;have hn':=hn;simp only[lW,Ul,bG,vK,AAq]at hn';obtain⟨⟨n1,n2⟩,n3,-⟩:=hn';refine⟨_,.dev d hd,rfl,hn,fun x hx=>?_,⟨⟨_,g0,rfl,rfl,?_⟩,⟨_,g1,rfl,rfl,by rfl⟩,⟨_,g2,rfl,rfl,by rfl⟩,trivial⟩,fun o T ho=>by cases ho;exact id⟩
 ·simp only[Ul,bG,vK]at hx;rcases hx with rfl | rfl | rfl
  ·exact .here (by simp)
  ·exact .next (.here (by simp)) g0 (by simp[IK,Au,At,ND])
  ·exact .next (.here (by simp)) g0 (by simp[IK,Au,At,ND])
 ·refine Qx ?_ ?_ _ _ _
  ·show RQ [20,a,b] [] 1=some a;rfl
  ·rfl
def CV (d:Ab) (i:Int):AS:=d.BB.getD i.toNat i0
def Lb (d:Ab) (i:Int) (v:AS->Int):Int:=bif d.down then 0 else bif Ba d.BB i then 0 else v (CV d i)
def HK (v:AS->Int):Gk:=fun p rest os=>match p,rest,os with
 | .dev d,[.int .i64 i],[]=> .ret ⟨DE (Lb d i v) (Lp d i),.dev d,[]⟩
 | _,_,_=> .fail
theorem Vo {d:Ab} {i:Int} {v:AS->Int} (h:d.down=true):DE (Lb d i v) (Lp d i)=DE 0 13:=by unfold Lb Lp;rw[h];rfl
theorem TY {d:Ab} {i:Int} {v:AS->Int} (h:d.down=false) (h2:Ba d.BB i=true):DE (Lb d i v) (Lp d i)=DE 0 3:=by unfold Lb Lp;rw[h,h2];rfl
theorem Nj {d:Ab} {i:Int} {v:AS->Int} (h:d.down=false) (h2:Ba d.BB i=false):DE (Lb d i v) (Lp d i)=DE (v (CV d i)) 0:=by unfold Lb Lp;rw[h,h2];rfl
theorem Sz:CY Tryz.prog AI DQ (Ai AI 20 [true] (CX 20 (HK fun m=>m.b.length))):=by
 refine Ek okV.all (by kernel_rfl) (by kernel_rfl) (n:=BD DQ) (by kernel_rfl) (fun _=>rfl) fun p rest os=>?_
 unfold HK;split
 ·rename_i d i;refine⟨BE (by kernel_rfl),fun objs hr=>?_⟩;obtain⟨hd,ho⟩:=NI d objs hr;refine⟨_,ho,Qh hd rfl ?_⟩;obtain⟨L,q,s,o,dn⟩:=d;refine(iV L q s o dn i _).mpr (Kc hd (fun h=>?_) (fun h h2=>?_) fun h h2=>⟨FO h2,?_⟩)
  ·rw[Vo h];exact⟨rfl,rfl⟩
  ·rw[TY h h2];exact⟨rfl,rfl⟩
  ·rw[Nj h h2];exact⟨rfl,rfl⟩
 ·trivial
theorem OR:CY Tryz.prog AI B0 (Ai AI 20 [true] (CX 20 (HK fun m=>IntKind.wrap .i64 ((m.b.length:Int) - m.Ej)))):=by
 refine Ek okV.all (by kernel_rfl) (by kernel_rfl) (n:=BD B0) (by kernel_rfl) (fun _=>rfl) fun p rest os=>?_
 unfold HK;split
 ·rename_i d i;refine⟨BE (by kernel_rfl),fun objs hr=>?_⟩;obtain⟨hd,ho⟩:=NI d objs hr;refine⟨_,ho,Qh hd rfl ?_⟩;obtain⟨L,q,s,o,dn⟩:=d;refine(kE L q s o dn i _).mpr (Kc hd (fun h=>?_) (fun h h2=>?_) fun h h2=>⟨FO h2,FO h2,?_⟩)
  ·rw[Vo h];exact⟨rfl,rfl⟩
  ·rw[TY h h2];exact⟨rfl,rfl⟩
  ·rw[Nj h h2];exact⟨rfl,rfl⟩
 ·trivial
def Kj (d:Ab) (i a k:Int):Bool:=bif d.down then false else bif Ba d.BB i then false else !(Ij (CV d i) a k)
def wH (d:Ab) (_:Int):Int:=bif d.down then 13 else 3
def Ed (d:Ab) (i a k:Int):Ad:=Us (CV d i) a k
def M4:Gk:=fun p rest os=>match p,rest,os with
 | .dev d,[.int .i64 i,.int .i64 a,.int .i64 k],[]=> .test (Kj d i a k) (.ret ⟨.tuple ⟨[Ao 21 (Ed d i a k).length,int 0]⟩,.dev d,[.vec kB (Ed d i a k) false]⟩) (.ret ⟨.tuple ⟨[.slice none 0 0,int (wH d i)]⟩,.dev d,[]⟩)
 | _,_,_=> .fail
theorem YH:CY Tryz.prog AI Cb (Ai AI 20 [true] (CX 20 M4)):=by
 refine Ek okV.all (by kernel_rfl) (by kernel_rfl) (n:=BD Cb) (by kernel_rfl) (fun _=>rfl) fun p rest os=>?_
 unfold M4;split
 ·rename_i d i a k;refine .test (fun hc=>?_) fun hc=>?_
  all_goals
   refine⟨BE (by kernel_rfl),fun objs hr=>?_⟩;obtain⟨hd,ho⟩:=NI d objs hr;refine⟨_,ho,?_⟩
  ·have hq:CU XV (Ax cV) [] Cb [20,21,22] 21 (fun w os=>w= .tuple ⟨[Ao 23 (Ed d i a k).length,int 0]⟩/\os=eh 21 22 d++[some (.vec kB (Ed d i a k) false)]) 400 (st Cb [At 20,int i,int a,int k] (eH d)):=by
    obtain⟨L,q,s,o,dn⟩:=d;unfold Kj at hc;refine(Sk L q s o dn i a k _).mpr (Kc hd (fun h=>?_) (fun h h2=>?_) fun h h2=>⟨FO h2,?_⟩)
    ·change dn=true at h;subst h;cases hc
    ·change dn=false at h;subst h;change (bif Ba L i then _ else _)=true at hc;rw[h2]at hc;cases hc
    ·change dn=false at h;subst h;change (bif Ba L i then _ else _)=true at hc;rw[h2]at hc
     have hb:Ij (CV ⟨L,q,s,o,false⟩ i) a k=false:=by simpa using hc
     exact AZ hb ⟨rfl,rfl⟩
   refine Ak.mono (AX.Fh (BK tw (by kernel_rfl) hq)) fun w H ⟨e,hos⟩=>?_
   subst e
   change H.get 20::H.get 21::H.get 22::[H.get 23]=some _::some _::some _::[some _]at hos
   simp only[Nh,iy]at hos;obtain⟨g0,g1,g2,g3⟩:=hos;obtain⟨objs',q1,q2,q3,q4,q5,q6⟩:=kH (a:=21) (b:=22) (H:=H) hd (by decide) (by rw[g0,g1,g2];rfl);exact .here (Sc _ [23] q1 rfl q2 q3 q4 q5 q6 (by simp) (fun b hb=>by rw[Q4]at hb;rw[hb];decide) rfl ⟨⟨_,rfl,g3⟩,trivial⟩)
  ·refine Qh hd rfl ?_;obtain⟨L,q,s,o,dn⟩:=d;unfold Kj at hc;refine(Sk L q s o dn i a k _).mpr (Kc hd (fun h=>?_) (fun h h2=>?_) fun h h2=>⟨FO h2,?_⟩)
   ·change dn=true at h;subst h;exact⟨rfl,rfl⟩
   ·change dn=false at h;subst h;exact⟨rfl,rfl⟩
   ·change dn=false at h;subst h;change (bif Ba L i then _ else _)=false at hc;rw[h2]at hc
    have hb:Ij (CV ⟨L,q,s,o,false⟩ i) a k=true:=by simpa using hc
    exact AB hb ⟨rfl,rfl⟩
 ·trivial
def FT (v:Ab->Value) (g:Ab->Ab):Gk:=fun p rest os=>match p,rest,os with
 | .dev d,[],[]=> .ret ⟨v d,.dev (g d),[]⟩
 | _,_,_=> .fail
theorem Kq {f:FuncId} (he:entry Tryz.prog f=some (BD f,A9 Tryz.prog f [])) (ha:Nat.ble 1 (BD f)=true) {v:Ab->Value} {g:Ab->Ab} (hv:∀d,Cu 6 (v d)=true) (hg:∀d,FQ d->FQ (g d)) (hq:∀d,FQ d->CU XV (Ax cV) [] f [20,21,22] 21 (fun w os=>w=v d/\os=eh 21 22 (g d)) 400 (st f [At 20] (eH d))):CY Tryz.prog AI f (Ai AI 20 [true] (CX 20 (FT v g))):=by
 refine Ek okV.all (by kernel_rfl) (by kernel_rfl) (n:=BD f) he (fun _=>rfl) fun p rest os=>?_
 unfold FT;split
 ·rename_i d;refine⟨BE ha,fun objs hr=>?_⟩;obtain⟨hd,ho⟩:=NI d objs hr;exact⟨_,ho,Qh (hg d hd) (hv d) (hq d hd)⟩
 ·trivial
theorem Tp {L:List AS} {q:Option BP} {s o:Int} {dn:Bool} (hd:FQ ⟨L,q,s,o,dn⟩):decide (s > 0)=true:=by
 have:=hd.s0;change 2<=s at this
 exact KE (by omega)
theorem QK:CY Tryz.prog AI Di (Ai AI 20 [true] (CX 20 (FT (fun d=> .bool d.down) id))):=by
 refine Kq (by kernel_rfl) (by kernel_rfl) (fun d=>rfl) (fun d h=>h) fun d hd=>?_
 obtain⟨L,q,s,o,dn⟩:=d;refine(bf L q s o dn _).mpr (AB (Tp hd) ?_);cases dn
 ·exact⟨rfl,rfl⟩
 ·exact⟨rfl,rfl⟩
theorem cZ:CY Tryz.prog AI FL (Ai AI 20 [true] (CX 20 (FT (fun d=>int d.ops) id))):=by
 refine Kq (by kernel_rfl) (by kernel_rfl) (fun d=>rfl) (fun d h=>h) fun d hd=>?_
 obtain⟨L,q,s,o,dn⟩:=d;exact(k8 L q s o dn _).mpr (AB (Tp hd) ⟨rfl,rfl⟩)
theorem Ox:CY Tryz.prog AI DT (Ai AI 20 [true] (CX 20 (FT (fun d=>int d.AR) id))):=by
 refine Kq (by kernel_rfl) (by kernel_rfl) (fun d=>rfl) (fun d h=>h) fun d hd=>?_
 obtain⟨L,q,s,o,dn⟩:=d;exact(YL L q s o dn _).mpr (AB (Tp hd) ⟨rfl,rfl⟩)
def vi (n:Nat):Value:= .int .i64 (.ofNat n)
def vu (n:Nat):Value:= .int .u64 (.ofNat n)
def vy (n:Nat):Value:= .int .u8 (.ofNat n)
def vT:Value:= .bool true
def vF:Value:= .bool false
def vN:Value:= .slice none 0 0
def vs (b n c:Nat):Value:=sl b 0 n (18446744073709551616+c)
def vb (l:AW):Value:= .string (yv l)
def pq (f:FuncId) (l:AW):Code:=A9 Tryz.prog f l
end Go.AD
