/-
  Part of the proof: fixed runs of a program. No conditions.
-/
import Derived.Test.YtfnfimeefeigdaaGreatDoorIdTell3
import Derived.Test.YtfnfimeefeigdaaGreatDoorIdDrawn
import Derived.Test.YtfnfimeefeigdaaGreatDoorChecked
import Derived.Test.YtfnfimeefeigdaaGreatDoorIdIop
import Derived.Test.YtfnfimeefeigdaaGreatDoorProg
noncomputable section
set_option maxRecDepth 1000000
namespace Go.AB
theorem Af.split{Z:AW}:∀{a b l:AL},Af Z (a++b) l->∃l1 l2,l=l1++l2/\Af Z a l1/\Af Z b l2
 | [],_,l,h=>⟨[],l,rfl,.nil,h⟩
 | _::a,_,_,h=>by
  cases h with
  | cons h1 h2=>
   obtain⟨l1,l2,rfl,k1,k2⟩:=Af.split (a:=a) h2;exact⟨_::l1,l2,rfl,.cons h1 k1,k2⟩
def DC(b:Nat):Nat->Nat->List (EK.C [.tok])
 | _,0=>[]
 | j,n+1=>Value.pointer (some ⟨b,AT,some j⟩)::DC b (j+1) n
theorem SX{Z ν:AW}{a b:Nat}{T T':BQ}(hm:Z a=some T)(hb:ν b=some T'):∀(n j:Nat)(l:AL),(∀i,j<=i->i < j+n->KW T'.e i=KW T.e i)->Af Z (DC a j n) l->Af ν (DC b j n) l
 | 0,_,_,_,h=>by cases h;exact .nil
 | n+1,j,_,he,h=>by
  cases h with
  | cons h1 h2=>
   refine .cons ?_ (SX hm hb n (j+1) _ (fun i h3 h4=>he i (by omega) (by omega)) h2);cases h1 with
   | HV _ _ _ _ _ hlo=>exact absurd hlo (ABY _)
   | Hn _ _ _ T2 M h3 h4 _=>
    rw[hm]at h3;cases h3
    exact .Hn b AT j T' M hb (by rw[he j (AAT _) (by omega)];exact h4) rfl
section
variable {base:Env}{W0:World}{Z:AW}{H:AA}{W:World}
theorem AH.sx(h:AH base W0 Z H W){a r z:Nat}{rest:List (EK.C [.tok])}{L:List (Option Pk)}{T M:BQ}(ha:H.get a=some (.abs (.Bk L) false))(hm:Z a=some T)(hr:H.get r=some (.vec [.tok] (DC a 0 L.length++Value.pointer (some ⟨z,0,none⟩)::rest) false))(hzm:Z z=some M):
 ∃T' ts,T'.e=CO ts/\ts[L.length]? = some M/\AH base W0 (Z.ext H.next T') (((H.del a).alloc (.abs (.Bk (L++[none])) false)).put r (.vec [.tok] (DC H.next 0 L.length++Value.pointer (some ⟨H.next,AT,some L.length⟩)::rest) false)) W:=by
 obtain⟨φ,q⟩:=h.abs;obtain⟨⟨us,Fm,hR,hP⟩,hK⟩:=q.rep a _ false T ha hm;have hK:=hK rfl;have hlt:=h.lt ha;have hltr:=h.lt hr;have hra:r≠a:=by rintro rfl;rw[ha]at hr;cases hr
 have hTb:=h.bound a T hm;have hul:us.length=L.length:=hR.len;have hle:Z.le (Z.ext H.next ⟨T.c,0,0,CO (us++[M])⟩):=AW.CV _ (h.fresh _ (AAT _)).2;refine⟨⟨T.c,0,0,CO (us++[M])⟩,us++[M],rfl,by rw[<-hul];simp,?_⟩;generalize hT':(⟨T.c,0,0,CO (us++[M])⟩:BQ)=T';rw[hT']at hle;have hTc:T'.c=T.c:=by rw[<-hT']
 have hTe:T'.e=CO (us++[M]):=by rw[<-hT']
 generalize hnr:(AJ.vec [.tok] (DC H.next 0 L.length++Value.pointer (some ⟨H.next,AT,some L.length⟩)::rest) false)=nr;have nrv:∀X:BQ,¬nr.void X:=fun X hv=>by rw[<-hnr]at hv;exact absurd hv.1 (by simp)
 have orv:∀X:BQ,¬(AJ.vec [.tok] (DC a 0 L.length++Value.pointer (some ⟨z,0,none⟩)::rest) false).void X:=fun X hv=>absurd hv.1 (by simp)
 have nrro:nr.ro=false:=by rw[<-hnr];rfl
 have nrab:nr.isAbs=false:=by rw[<-hnr];rfl
 have get:∀x,(((H.del a).alloc (.abs (.Bk (L++[none])) false)).put r nr).get x=if x=r then some nr else if x=H.next then some (.abs (.Bk (L++[none])) false)else if x=a then none else H.get x:=fun x=>by
  rw[AA.AQ];split
  .rfl
  .rw[AA.AN];show(if x=H.next then _ else _)=_;split
   .rfl
   .rw[AA.BK]
 have key:∀b o T2,(((H.del a).alloc (.abs (.Bk (L++[none])) false)).put r nr).get b=some o->(Z.ext H.next T') b=some T2->(b=r/\o=nr/\Z r=some T2)\/(b=H.next/\o= .abs (.Bk (L++[none])) false/\T2=T')\/(b≠r/\b≠H.next/\b≠a/\H.get b=some o/\Z b=some T2):=by
  intro b o T2 hb hT;rw[get]at hb
  by_cases e:b=r
  .rw[AAZ e]at hb;cases hb
   subst e;rw[AW.BB _ _ (by omega)]at hT;exact .inl ⟨rfl,rfl,hT⟩
  .rw[AAW e]at hb
   by_cases e2:b=H.next
   .rw[AAZ e2]at hb;cases hb
    subst e2;rw[AW.AY]at hT;cases hT
    exact .inr (.inl ⟨rfl,rfl,rfl⟩)
   .rw[AAW e2]at hb;rw[AW.BB _ _ e2]at hT
    by_cases e3:b=a
    .rw[AAZ e3]at hb;cases hb
    .rw[AAW e3]at hb;exact .inr (.inr ⟨e,e2,e3,hb,hT⟩)
 have GM:∀b o T2,(b=r/\o=nr/\Z r=some T2)\/(b≠r/\b≠H.next/\b≠a/\H.get b=some o/\Z b=some T2)->∃o0,H.get b=some o0/\Z b=some T2/\b≠a/\b≠H.next/\o0.ro=o.ro/\o0.isAbs=o.isAbs/\(¬o.void T2->¬o0.void T2):=by
  rintro b o T2 (⟨rfl,rfl,h1⟩ | ⟨h1,h2,h3,h4,h5⟩)
  .exact⟨_,hr,h1,hra,by omega,nrro.symm,nrab.symm,fun _=>orv T2⟩
  .exact⟨o,h4,h5,h3,h2,rfl,rfl,id⟩
 have getL:∀(j:Nat)(s:Pk),(L++[none])[j]? = some (some s) <-> L[j]? = some (some s):=by
  intro j s
  by_cases e:j < L.length
  .rw[ABD e]
  .rw[ABG (by omega),AAq (l:=L) (by omega)];constructor
   .intro h;cases hj:j - L.length with
    | zero=>rw[hj]at h;cases h
    | succ k=>rw[hj]at h;cases h
   .intro h;cases h
 let φ':Nat->Nat->Prop:=fun b x=>if b=H.next then φ a x else φ b x
 have φz:φ' H.next=φ a:=by funext x;show(if H.next=H.next then _ else _)=_;rw[AAZ rfl]
 have φo:∀b,b≠H.next->φ' b=φ b:=fun b hb=>by funext x;show(if b=H.next then _ else _)=_;rw[AAW hb]
 refine⟨?_,?_,?_,?_,?_,h.size,h.below,h.out,h.os,⟨φ',?_,?_⟩,AW.le_trans h.le hle,h.grow⟩
 .intro b o hb T2 hT;rcases key b o T2 hb hT with⟨rfl,rfl,hT⟩ | ⟨rfl,rfl,rfl⟩ | ⟨_,_,_,hb,hT⟩
  .obtain⟨p,hp,hor⟩:=h.obj _ _ hr T2 hT;refine⟨p,hp,?_⟩;rw[<-hnr];have hne:(DC a 0 L.length++Value.pointer (some ⟨z,0,none⟩)::rest)≠[]:=by simp
   generalize hll:(DC a 0 L.length++Value.pointer (some ⟨z,0,none⟩)::rest)=ll at hor hne;cases hor with
   | D7=>exact absurd rfl hne
   | vec _ _ _ _ hc=>
    refine .vec T2 [.tok] _ false _ ?_;rw[D8]at hc ⊢;subst hll;cases hc with
    | cells _ _ _ c t lo hi he hc hr' hf=>
     refine .cells T2 _ _ false c t lo hi he ?_ hr' hf;have e1:(DC H.next 0 L.length++Value.pointer (some ⟨H.next,AT,some L.length⟩)::rest).length=(DC a 0 L.length++Value.pointer (some ⟨z,0,none⟩)::rest).length:=by
      have:∀(b j n:Nat),(DC b j n).length=n:=by
       intro b j n;induction n generalizing j with
       | zero=>rfl
       | succ n ih=>simp[DC,ih]
      rw[AAf,AAf,this,this];simp
     rw[e1];generalize (List.drop T2.d c.toList).take _=vals at hc;obtain⟨l1,l2,rfl,c1,c2⟩:=Af.split hc;refine Af.append (SX hm (AW.AY _ _ _) _ 0 _ (fun i _ hi=>?_) c1) ?_
     .rw[hTe,hR.code,FQ,FQ,ABD (by omega)]
     .cases c2 with
      | cons d1 d2=>
       refine .cons ?_ (d2.mono hle);cases d1 with
       | ptr _ _ X hX=>
        rw[hzm]at hX;cases hX
        exact .Hn H.next AT L.length T' M (AW.AY _ _ _) (by rw[hTe,FQ,<-hul];simp) rfl
  .exact⟨_,ABA (by rw[hTc];exact hTb),.abs _ _ _ _⟩
  .obtain⟨p,hp,hp2⟩:=h.obj b o hb T2 hT;exact⟨p,hp,hp2.mono hle⟩
 .intro b o hb hro T2 hT hv;rcases key b o T2 hb hT with hk | ⟨rfl,rfl,rfl⟩ | hk
  .obtain⟨o0,g1,g2,_,_,g5,_,g7⟩:=GM b o T2 (.inl hk);exact h.own b o0 g1 (by rw[g5];exact hro) T2 g2 (g7 hv)
  .exact absurd trivial hv
  .obtain⟨o0,g1,g2,_,_,g5,_,g7⟩:=GM b o T2 (.inr hk);exact h.own b o0 g1 (by rw[g5];exact hro) T2 g2 (g7 hv)
 .intro b1 b2 o1 o2 h1 h2 T1 T2 m1 m2 v1 v2 hc hrr;have fin:∀(k1:(b1=r/\o1=nr/\Z r=some T1)\/(b1≠r/\b1≠H.next/\b1≠a/\H.get b1=some o1/\Z b1=some T1))(k2:(b2=r/\o2=nr/\Z r=some T2)\/(b2≠r/\b2≠H.next/\b2≠a/\H.get b2=some o2/\Z b2=some T2)),b1=b2:=by
   intro k1 k2;obtain⟨p1,g1,g2,_,_,g5,_,g7⟩:=GM b1 o1 T1 k1;obtain⟨p2,f1,f2,_,_,f5,_,f7⟩:=GM b2 o2 T2 k2;exact h.inj b1 b2 p1 p2 g1 f1 T1 T2 g2 f2 (g7 v1) (f7 v2) hc (by rw[g5,f5];exact hrr)
  rcases key b1 o1 T1 h1 m1 with hk1 | ⟨rfl,rfl,rfl⟩ | hk1<;>rcases key b2 o2 T2 h2 m2 with hk2 | ⟨rfl,rfl,rfl⟩ | hk2
  .exact fin (.inl hk1) (.inl hk2)
  .exact absurd trivial v2
  .exact fin (.inl hk1) (.inr hk2)
  .exact absurd trivial v1
  .rfl
  .exact absurd trivial v1
  .exact fin (.inr hk1) (.inl hk2)
  .exact absurd trivial v2
  .exact fin (.inr hk1) (.inr hk2)
 .intro b hb;have hb:H.next+1<=b:=hb;refine⟨?_,by rw[AW.BB _ _ (by omega)];exact(h.fresh b (by omega)).2⟩;rw[get,AAW (by omega),AAW (by omega),AAW (by omega)];exact(h.fresh b (by omega)).1
 .intro b T2 hT
  by_cases e:b=H.next
  .subst e;rw[AW.AY]at hT;cases hT;rw[hTc];exact hTb
  .rw[AW.BB _ _ e]at hT;exact h.bound b T2 hT
 .intro b c ro T2 hb hT;rcases key b _ T2 hb hT with⟨_,e,_⟩ | ⟨rfl,e,rfl⟩ | ⟨_,n2,_,hb,hT⟩
  .rw[<-e]at nrab;cases nrab
  .cases e
   rw[φz];refine⟨⟨us++[M],Fm,⟨hTe,by simp[hul],by rw[hTc];exact hTb,fun j s hj=>hR.ext j s ((getL j s).1 hj),fun i j x s t hi hj=>hR.w8 i j x s t ((getL i s).1 hi) ((getL j t).1 hj),fun x=>?_⟩,fun j N s hN hj=>?_⟩,fun _=>hK⟩
   .rw[hR.own x];exact exists_congr fun j=>exists_congr fun s=>and_congr_left fun _=>(getL j s).symm
   .have hj:=(getL j s).1 hj;have hjl:j < L.length:=(List.getElem?_eq_some_iff.1 hj).1;rw[ABD (by omega)]at hN;exact(hP j N s hN hj).mono hle
  .obtain⟨r1,r2⟩:=q.rep b c ro T2 hb hT;rw[φo b n2];exact⟨r1.mono hle,r2⟩
 .intro b c ro T2 hb hT b2 o2 T3 hb2 hT2 hne;have C3:∀b0 c0 ro0 T0,H.get b0=some (.abs c0 ro0)->Z b0=some T0->(b2≠b0)->∀(k2:(b2=r/\o2=nr/\Z r=some T3)\/(b2≠r/\b2≠H.next/\b2≠a/\H.get b2=some o2/\Z b2=some T3)),(¬o2.void T3->¬φ b0 T3.c)/\(o2.isAbs=true->∀i,φ b0 i->¬φ' b2 i):=by
   intro b0 c0 ro0 T0 g1 g2 g3 k2;obtain⟨p2,f1,f2,_,f4,_,f6,f7⟩:=GM b2 o2 T3 k2;have:=q.C3 b0 c0 ro0 T0 g1 g2 b2 p2 T3 f1 f2 g3;rw[φo b2 f4];exact⟨fun hv=>this.1 (f7 hv),fun hab=>this.2 (by rw[f6];exact hab)⟩
  rcases key b _ T2 hb hT with⟨_,e,_⟩ | ⟨rfl,e,rfl⟩ | ⟨_,n2,n3,hbg,hbm⟩
  .rw[<-e]at nrab;cases nrab
  .rw[φz];rcases key b2 o2 T3 hb2 hT2 with hk | ⟨rfl,_,_⟩ | hk
   .exact C3 a _ false T ha hm (by rw[hk.1];exact hra) (.inl hk)
   .exact absurd rfl hne
   .exact C3 a _ false T ha hm hk.2.2.1 (.inr hk)
  .rw[φo b n2];rcases key b2 o2 T3 hb2 hT2 with hk | ⟨rfl,rfl,rfl⟩ | hk
   .exact C3 b c ro T2 hbg hbm hne (.inl hk)
   .rw[φz];exact⟨fun hv=>absurd trivial hv,fun _ i hi hi2=>(q.C3 b c ro T2 hbg hbm a _ T ha hm (ABB n3)).2 rfl i hi hi2⟩
   .exact C3 b c ro T2 hbg hbm hne (.inr hk)
theorem AH.uf(h:AH base W0 Z H W){a r z:Nat}{rest:List (EK.C [.tok])}{L:List (Option Pk)}{s:Pk}{T M:BQ}(ha:H.get a=some (.abs (.Bk L) false))(hm:Z a=some T)(hr:H.get r=some (.vec [.tok] (DC a 0 L.length++Value.pointer (some ⟨z,0,none⟩)::rest) false))(hz:H.get z=some (.abs (.pack s) false))(hzm:Z z=some M)(he:DO s=[]):
 ∃T',AH base W0 (Z.ext H.next T') (((((H.del a).alloc (.abs (.Bk (L++[none])) false)).put r (.vec [.tok] (DC H.next 0 L.length++Value.pointer (some ⟨H.next,AT,some L.length⟩)::rest) false)).del z).put H.next (.abs (.Bk (L++[some s])) false)) W:=by
 obtain⟨T',ts,h1,h2,h3⟩:=h.sx ha hm hr hzm;have hzl:=h.lt hz;have hrl:=h.lt hr;have hal:=h.lt ha;have hzr:z≠r:=by rintro rfl;rw[hr]at hz;cases hz
 have hza:z≠a:=by rintro rfl;rw[ha]at hz;cases hz
 have g1:(((H.del a).alloc (.abs (.Bk (L++[none])) false)).put r (.vec [.tok] (DC H.next 0 L.length++Value.pointer (some ⟨H.next,AT,some L.length⟩)::rest) false)).get H.next=some (.abs (.Bk ((L++[none]).set L.length none)) false):=by
  rw[AA.AQ,AAW (by omega),AA.AN,AAZ (show H.next=(H.del a).next from rfl)];have:(L++[none]).set L.length none=L++[none]:=by
   rw[ACq _ _ (AAT _),ABQ];rfl
  rw[this]
 have g2:(((H.del a).alloc (.abs (.Bk (L++[none])) false)).put r (.vec [.tok] (DC H.next 0 L.length++Value.pointer (some ⟨H.next,AT,some L.length⟩)::rest) false)).get z=some (.abs (.pack s) false):=by
  rw[AA.AQ,AAW hzr,AA.AN,AAW (show z≠(H.del a).next by show z≠H.next;omega),AA.BK,AAW hza];exact hz
 have h4:=h3.bG (a:=H.next) (z:=z) (j:=L.length) (s:=s) (L:=L++[none]) g1 (AW.AY _ _ _) h1 h2 g2 (by rw[AW.BB _ _ (by omega)];exact hzm) he (by simp);have:(L++[none]).set L.length (some s)=L++[some s]:=by
  rw[ACq _ _ (AAT _),ABQ];rfl
 rw[this]at h4;exact⟨T',h4⟩
theorem L6(b:Nat):∀(n j:Nat),DC b j n++[Value.pointer (some ⟨b,AT,some (j+n)⟩)]=DC b j (n+1)
 | 0,_=>rfl
 | n+1,j=>by
  show _::(DC b (j+1) n++_)=_::DC b (j+1) (n+1);rw[<-L6 b n (j+1),show j+1+n=j+(n+1) by omega]
end
section
variable {base:Env}{W0:World}{Z:AW}{H:AA}{W:World}
theorem AH.gX(h:AH base W0 Z H W){b:Nat}{T:BQ}(hm:Z b=some T):AH base W0 (Z.ext H.next ⟨T.c,0,0,CO []⟩) (H.alloc (.abs (.Bk []) false)) W:=by
 have hn:=(h.fresh H.next (AAT _)).2;have hle:=AW.CV ⟨T.c,0,0,CO []⟩ hn;have hlt:=h.bound b T hm;have key:∀i X,(Z.ext H.next ⟨T.c,0,0,CO []⟩) i=some X->(i=H.next/\X=⟨T.c,0,0,CO []⟩)\/(i≠H.next/\Z i=some X):=by
  intro i X e
  by_cases hi:i=H.next
  .subst hi;rw[AW.AY]at e;cases e;exact .inl ⟨rfl,rfl⟩
  .rw[AW.BB _ _ hi]at e;exact .inr ⟨hi,e⟩
 have key2:∀b' p,(H.alloc (.abs (.Bk []) false)).get b'=some p->(b'=H.next/\p= .abs (.Bk []) false)\/(b'≠H.next/\H.get b'=some p):=by
  intro b' p hb';rw[AA.AN]at hb'
  by_cases e:b'=H.next
  .rw[AAZ e]at hb';cases hb';exact .inl ⟨e,rfl⟩
  .rw[AAW e]at hb';exact .inr ⟨e,hb'⟩
 have both:∀{b' p X},(H.alloc (.abs (.Bk []) false)).get b'=some p->(Z.ext H.next ⟨T.c,0,0,CO []⟩) b'=some X->(b'=H.next/\p= .abs (.Bk []) false/\X=⟨T.c,0,0,CO []⟩)\/(b'≠H.next/\H.get b'=some p/\Z b'=some X):=by
  intro b' p X h1 h2;rcases key2 b' p h1 with⟨e,rfl⟩ | ⟨e,g⟩
  .subst e;rw[AW.AY]at h2;cases h2;exact .inl ⟨rfl,rfl,rfl⟩
  .rw[AW.BB _ _ e]at h2;exact .inr ⟨e,g,h2⟩
 obtain⟨φ,q⟩:=h.abs;let φ':Nat->Nat->Prop:=fun b x=>if b=H.next then False else φ b x
 have φz:∀x,¬φ' H.next x:=fun x hx=>by
  have hx:(if H.next=H.next then False else φ H.next x):=hx;rw[AAZ rfl]at hx;exact hx
 have φo:∀b,b≠H.next->φ' b=φ b:=fun b hb=>by funext x;show(if b=H.next then _ else _)=_;rw[AAW hb]
 refine⟨?_,?_,?_,?_,?_,h.size,h.below,h.out,h.os,⟨φ',?_,?_⟩,AW.le_trans h.le hle,h.grow⟩
 .intro b' p hb X hm';rcases both hb hm' with⟨rfl,rfl,rfl⟩ | ⟨hne,hb',hm'⟩
  .exact⟨_,ABA hlt,.abs _ _ _ _⟩
  .obtain⟨o2,h2,h3⟩:=h.obj b' p hb' X hm';exact⟨o2,h2,h3.mono hle⟩
 .intro b' p hb hr X hm' hv;rcases both hb hm' with⟨_,rfl,_⟩ | ⟨_,g1,g2⟩
  .exact absurd trivial hv
  .exact h.own b' p g1 hr X g2 hv
 .intro b1 b2 p1 p2 h1 h2 T1 T2 m1 m2 v1 v2 hcc hrr;rcases both h1 m1 with⟨_,rfl,_⟩ | ⟨_,g1,g2⟩
  .exact absurd trivial v1
  .rcases both h2 m2 with⟨_,rfl,_⟩ | ⟨_,g3,g4⟩
   .exact absurd trivial v2
   .exact h.inj b1 b2 p1 p2 g1 g3 T1 T2 g2 g4 v1 v2 hcc hrr
 .intro b' hb;have hb':H.next+1<=b':=hb;refine⟨?_,?_⟩
  .rw[AA.AN,AAW (by omega)];exact(h.fresh b' (by omega)).1
  .rw[AW.BB _ _ (by omega)];exact(h.fresh b' (by omega)).2
 .intro b' X hm';rcases key b' X hm' with⟨rfl,rfl⟩ | ⟨_,hm2⟩
  .exact hlt
  .exact h.bound b' X hm2
 .intro b' a r T' hb' hm';rcases both hb' hm' with⟨rfl,e,rfl⟩ | ⟨hne,g1,g2⟩
  .cases e
   refine⟨⟨[],fun _ _=>False,⟨rfl,rfl,hlt,fun j s hj=>(by cases hj),fun i j x s t hi=>(by cases hi),fun x=>⟨fun hx=>absurd hx (φz x),fun⟨_,_,hj,_⟩=>(by cases hj)⟩⟩,fun j M s hM=>(by cases hM)⟩,fun _ i hi=>absurd hi (φz i)⟩
  .obtain⟨r1,r2⟩:=q.rep b' a r T' g1 g2;rw[φo b' hne];exact⟨r1.mono hle,r2⟩
 .intro b' a r T' hb' hm' b2 o2 T2 hb2 hm2 hne2;rcases both hb' hm' with⟨rfl,e,rfl⟩ | ⟨hne,g1,g2⟩
  .exact⟨fun _=>φz _,fun _ i hi=>absurd hi (φz i)⟩
  .rw[φo b' hne];rcases both hb2 hm2 with⟨rfl,rfl,rfl⟩ | ⟨hne3,g3,g4⟩
   .exact⟨fun hv=>absurd trivial hv,fun _ i _=>φz i⟩
   .have:=q.C3 b' a r T' g1 g2 b2 o2 T2 g3 g4 hne2;rw[φo b2 hne3];exact this
def E9(r:Nat):List (Nat × Pk)->Nat->List (Option Pk)->AA->Nat × AA
 | [],a,_,H=>(a,H)
 | (z,s)::zs,a,L,H=>E9 r zs H.next (L++[some s]) (((((H.del a).alloc (.abs (.Bk (L++[none])) false)).put r (.vec [.tok] (DC H.next 0 L.length++Value.pointer (some ⟨H.next,AT,some L.length⟩)::zs.map fun p=>Value.pointer (some ⟨p.1,0,none⟩)) false)).del z).put H.next (.abs (.Bk (L++[some s])) false))
theorem FL(H:AA)(a r z:Nat)(o1 o2 o3:AJ)(x:Nat):(((((H.del a).alloc o1).put r o2).del z).put H.next o3).get x=if x=H.next then some o3 else if x=z then none else if x=r then some o2 else if x=a then none else H.get x:=by
 rw[AA.AQ];split
 .rfl
 .rename_i h1;rw[AA.BK];split
  .rfl
  .rw[AA.AQ];split
   .rfl
   .rw[AA.AN,AAW (show x≠(H.del a).next from h1),AA.BK]
theorem AH.bN{r:Nat}:∀(zs:List (Nat × Pk))(a:Nat)(L:List (Option Pk))(H:AA)(Z:AW),AH base W0 Z H W->H.get a=some (.abs (.Bk L) false)->(∃T,Z a=some T)->H.get r=some (.vec [.tok] (DC a 0 L.length++zs.map fun p=>Value.pointer (some ⟨p.1,0,none⟩)) false)->
 (∀p∈zs,H.get p.1=some (.abs (.pack p.2) false)/\DO p.2=[]/\∃M,Z p.1=some M)->(zs.map Prod.fst).Nodup->∃μ2,Z.le μ2/\AH base W0 μ2 (E9 r zs a L H).2 W
 | [],a,L,H,Z,h,_,_,_,_,_=>⟨Z,AW.le_refl _,h⟩
 | (z,s)::zs,a,L,H,Z,h,ha,⟨T,hT⟩,hr,hz,hnd=>by
  obtain⟨g1,g2,M,g3⟩:=hz (z,s) (ABL ..);obtain⟨T',h2⟩:=h.uf (z:=z) (s:=s) (rest:=zs.map fun p=>Value.pointer (some ⟨p.1,0,none⟩)) ha hT hr g1 g3 g2;have hrl:=h.lt hr;have hzl:=h.lt g1;have hzr:r≠z:=by rintro rfl;rw[g1]at hr;cases hr
  rw[AAn,ABS]at hnd;have e1:(((((H.del a).alloc (.abs (.Bk (L++[none])) false)).put r (.vec [.tok] (DC H.next 0 L.length++Value.pointer (some ⟨H.next,AT,some L.length⟩)::zs.map fun p=>Value.pointer (some ⟨p.1,0,none⟩)) false)).del z).put H.next (.abs (.Bk (L++[some s])) false)).get r=some (.vec [.tok] (DC H.next 0 (L++[some s]).length++zs.map fun p=>Value.pointer (some ⟨p.1,0,none⟩)) false):=by
   rw[FL,AAW (by omega),AAW hzr,AAZ rfl,AAf,show [some s].length=1 from rfl,<-L6,AAj,AA2,ACa]
  have e2:∀p∈zs,(((((H.del a).alloc (.abs (.Bk (L++[none])) false)).put r (.vec [.tok] (DC H.next 0 L.length++Value.pointer (some ⟨H.next,AT,some L.length⟩)::zs.map fun p=>Value.pointer (some ⟨p.1,0,none⟩)) false)).del z).put H.next (.abs (.Bk (L++[some s])) false)).get p.1=some (.abs (.pack p.2) false)/\DO p.2=[]/\∃M,(Z.ext H.next T') p.1=some M:=by
   intro p hp;obtain⟨f1,f2,N,f3⟩:=hz p (ABT _ hp);have hpl:=h.lt f1;refine⟨?_,f2,N,by rw[AW.BB _ _ (by omega)];exact f3⟩;rw[FL,AAW (by omega),AAW (fun e=>hnd.1 (by show z∈_;rw[<-e];exact List.mem_map.2 ⟨p,hp,rfl⟩)),AAW (by intro e;rw[e,hr]at f1;cases f1),AAW (by intro e;rw[e,ha]at f1;cases f1),f1]
  obtain⟨μ3,k1,k2⟩:=AH.bN (r:=r) zs H.next (L++[some s]) _ _ h2 (by rw[FL,AAZ rfl]) ⟨T',AW.AY _ _ _⟩ e1 e2 hnd.2;exact⟨μ3,AW.le_trans (AW.CV _ (h.fresh _ (AAT _)).2) k1,k2⟩
theorem Qo{r:Nat}:∀(zs:List (Nat × Pk))(a:Nat)(L:List (Option Pk))(H:AA),(∀x o,H.get x=some o->x < H.next)->H.get a=some (.abs (.Bk L) false)->H.get r=some (.vec [.tok] (DC a 0 L.length++zs.map fun p=>Value.pointer (some ⟨p.1,0,none⟩)) false)->
 (∀p∈zs,H.get p.1=some (.abs (.pack p.2) false))->(zs.map Prod.fst).Nodup->(E9 r zs a L H).2.get r=some (.vec [.tok] (DC (E9 r zs a L H).1 0 (L.length+zs.length)) false)/\(E9 r zs a L H).2.get (E9 r zs a L H).1=some (.abs (.Bk (L++zs.map fun p=>some p.2)) false)/\
  (∀x,x≠r->x≠a->x∉zs.map Prod.fst->x < H.next->(E9 r zs a L H).2.get x=H.get x)/\((E9 r zs a L H).1=a\/H.next<=(E9 r zs a L H).1)
 | [],a,L,H,hlt,ha,hr,_,_=>⟨by rw[ABV,ABq]at hr;exact hr,by rw[ABV,ABq];exact ha,fun _ _ _ _ _=>rfl,.inl rfl⟩
 | (z,s)::zs,a,L,H,hlt,ha,hr,hz,hnd=>by
  have g1:=hz (z,s) (ABL ..);have hrl:=hlt _ _ hr;have hal:=hlt _ _ ha;have hzl:=hlt _ _ g1;have hzr:r≠z:=by rintro rfl;rw[g1]at hr;cases hr
  rw[AAn,ABS]at hnd;have e0:∀x o,(((((H.del a).alloc (.abs (.Bk (L++[none])) false)).put r (.vec [.tok] (DC H.next 0 L.length++Value.pointer (some ⟨H.next,AT,some L.length⟩)::zs.map fun p=>Value.pointer (some ⟨p.1,0,none⟩)) false)).del z).put H.next (.abs (.Bk (L++[some s])) false)).get x=some o->x < (((((H.del a).alloc (.abs (.Bk (L++[none])) false)).put r (.vec [.tok] (DC H.next 0 L.length++Value.pointer (some ⟨H.next,AT,some L.length⟩)::zs.map fun p=>Value.pointer (some ⟨p.1,0,none⟩)) false)).del z).put H.next (.abs (.Bk (L++[some s])) false)).next:=by
   intro x o hx;rw[FL]at hx;show x < H.next+1
   by_cases e:x=H.next
   .omega
   .rw[AAW e]at hx
    by_cases e2:x=z
    .rw[AAZ e2]at hx;cases hx
    .rw[AAW e2]at hx
     by_cases e3:x=r
     .omega
     .rw[AAW e3]at hx
      by_cases e4:x=a
      .rw[AAZ e4]at hx;cases hx
      .rw[AAW e4]at hx;have:=hlt _ _ hx;omega
  have e1:(((((H.del a).alloc (.abs (.Bk (L++[none])) false)).put r (.vec [.tok] (DC H.next 0 L.length++Value.pointer (some ⟨H.next,AT,some L.length⟩)::zs.map fun p=>Value.pointer (some ⟨p.1,0,none⟩)) false)).del z).put H.next (.abs (.Bk (L++[some s])) false)).get r=some (.vec [.tok] (DC H.next 0 (L++[some s]).length++zs.map fun p=>Value.pointer (some ⟨p.1,0,none⟩)) false):=by
   rw[FL,AAW (by omega),AAW hzr,AAZ rfl,AAf,show [some s].length=1 from rfl,<-L6,AAj,AA2,ACa]
  have e2:∀p∈zs,(((((H.del a).alloc (.abs (.Bk (L++[none])) false)).put r (.vec [.tok] (DC H.next 0 L.length++Value.pointer (some ⟨H.next,AT,some L.length⟩)::zs.map fun p=>Value.pointer (some ⟨p.1,0,none⟩)) false)).del z).put H.next (.abs (.Bk (L++[some s])) false)).get p.1=some (.abs (.pack p.2) false):=by
   intro p hp;have f1:=hz p (ABT _ hp);have hpl:=hlt _ _ f1;rw[FL,AAW (by omega),AAW (fun e=>hnd.1 (by show z∈_;rw[<-e];exact List.mem_map.2 ⟨p,hp,rfl⟩)),AAW (by intro e;rw[e,hr]at f1;cases f1),AAW (by intro e;rw[e,ha]at f1;cases f1),f1]
  obtain⟨k1,k2,k3,k4⟩:=Qo (r:=r) zs H.next (L++[some s]) (((((H.del a).alloc (.abs (.Bk (L++[none])) false)).put r (.vec [.tok] (DC H.next 0 L.length++Value.pointer (some ⟨H.next,AT,some L.length⟩)::zs.map fun p=>Value.pointer (some ⟨p.1,0,none⟩)) false)).del z).put H.next (.abs (.Bk (L++[some s])) false)) e0 (by rw[FL,AAZ rfl]) e1 e2 hnd.2;refine⟨?_,?_,fun x h1 h2 h3 h4=>?_,.inr ?_⟩
  .rw[AAf,show [some s].length=1 from rfl]at k1;rw[AAz,show L.length+(zs.length+1)=L.length+1+zs.length by omega];exact k1
  .rw[AA2]at k2;exact k2
  .rw[AAn,AAw,ACc]at h3;show(E9 r zs _ _ _).2.get x=_;rw[k3 x h1 (by omega) h3.2 (show x < H.next+1 by omega),FL,AAW (by omega),AAW h3.1,AAW h1,AAW h2]
  .rcases k4 with k4 | k4
   .show H.next<=(E9 r zs _ _ _).1;rw[k4];exact AAT _
   .exact ABs (ADX _) k4
inductive Rw(r:Nat):Value->Value->Prop where
 | same (v:Value):Rw r v v
 | row (n cap m:Nat) (hc:cap=AT+m):Rw r (.slice (some ⟨r,0,none⟩) n cap) (.slice (some ⟨r,0,some 0⟩) n AT)
inductive eh(r:Nat):AL->AL->Prop where
 | nil:eh r [] []
 | cons {v w:Value} {l m:AL} (h:Rw r v w) (t:eh r l m):eh r (v::l) (w::m)
inductive vz(r:Nat):Value->Value->Prop where
 | val {v w:Value} (h:Rw r v w):vz r v w
 | tuple {l m:AL} (h:eh r l m):vz r (.tuple ⟨l⟩) (.tuple ⟨m⟩)
theorem Rw.QT{Z:AW}{r:Nat}(hz:∀T,Z r=some T->T.r≠0){v w v':Value}(h:Rw r v w)(hv:AF Z v v'):AF Z w v':=by
 cases h with
 | same=>exact hv
 | row n cap m hc=>
  subst hc;cases hv with
  | slice _ _ _ _ cap' o' T hm hc ho=>exact .Bd r 0 n AT cap' o' T hm (by rw[ABy];exact Oj hc) (by rw[ABy];exact ho) (hz T hm)
theorem eh.iU{Z:AW}{r:Nat}(hz:∀T,Z r=some T->T.r≠0){l m:AL}(h:eh r l m):∀{l':AL},Af Z l l'->Af Z m l':=by
 induction h with
 | nil=>intro l' h;cases h;exact .nil
 | cons h _ ih=>intro l' hl;cases hl with | cons h1 h2=>exact .cons (h.QT hz h1) (ih h2)
theorem eh.length{r:Nat}{l m:AL}(h:eh r l m):l.length=m.length:=by
 induction h with
 | nil=>rfl
 | cons _ _ ih=>simp[ih]
theorem eh.refl(r:Nat):∀l:AL,eh r l l
 | []=> .nil
 | v::l=> .cons (.same v) (eh.refl r l)
theorem vz.QT{Z:AW}{r:Nat}(hz:∀T,Z r=some T->T.r≠0){v w v':Value}(h:vz r v w)(hv:AF Z v v'):AF Z w v':=by
 cases h with
 | val h=>exact h.QT hz hv
 | tuple h=>
  obtain⟨xs',rfl,hl⟩:=AF.CM.1 hv;exact AF.CM.2 ⟨xs',rfl,h.iU hz hl⟩
theorem AH.Y1(h:AH base W0 Z H W){r:Nat}{k:EK}{l:List (EK.C k)}{ro:Bool}(hr:H.get r=some (.vec k l ro))(hl:l≠[])(hk:k.length≠0):∀T,Z r=some T->T.r≠0:=by
 intro T hT;obtain⟨o',h1,h2⟩:=h.obj r _ hr T hT;cases h2 with
 | D7=>exact absurd rfl hl
 | vec _ _ _ _ hc=>
  cases hc with
  | cells _ _ _ c t lo hi he hc hr' hf=>
   have:=hc.length
   change (Ac k l).length=((c.toList.drop T.d).take _).length at this
   rw[AAh,AAo,A7]at this;have hcs:c.toList.length=c.size:=rfl;have h3:0 < l.length:=List.length_pos_iff.2 hl;have h4:0 < l.length * k.length:=ACu h3 (by omega);omega
end
theorem AH.TQ{base:Env}{W0 W:World}{Z:AW}{H:AA}(h:AH base W0 Z H W){b:Nat}{k:EK}{l:List (EK.C k)}{ro:Bool}(n:Nat)(hb:H.get b=some (.vec k l ro)):AH base W0 Z (H.put b (.vec k (l.take n) ro)) W:=by
 refine h.swap hb (fun T o' _ ho=>?_) rfl rfl rfl (fun T _ hv=>⟨by rw[hv.1];exact List.take_nil,hv.2.1,hv.2.2⟩);cases ho with
 | vec _ _ _ _ hc=>
  cases hc with
  | cells _ _ _ c t lo hi he hc hr hf=>
   refine .vec T k _ ro _ (.cells T _ _ ro c t lo hi he ?_ hr hf);have h1:=hc.take (n * k.length);rw[ET]at h1;rw[ABi]at h1;have e:(Ac k (l.take n)).length=min (n * k.length) (Ac k l).length:=by rw[<-ET,AAh]
   rw[e];exact h1
 | D7 _ _ _ he hr hk=>rw[List.take_nil];exact .D7 T k ro _ he hr hk
inductive Told(D:Nat->Prop)(Φ:H5):H5 where
 | here {v:Value} {H:AA} (h:Φ v H):Told D Φ v H
 | kX {v:Value} {H:AA} (k:EK) (hk:k.length≠0) (a:Nat) (ha:a∈Am 4 v\/D a) (v2:Value) (hv:rT H.next v v2) (t:(∀x o,H.get x=some o->x < H.next)->Told D Φ v2 (H.alloc (.vec k [] false))):Told D Φ v H
 | Vw {v:Value} {H:AA} (k:EK) (hk:k.length≠0) (a:Nat) (ha:a∈Am 4 v\/D a) (v2:Value) (hv:rT H.next v v2) (b:Nat) (cs cs1:AL) (e:Nat) (ro:Bool) (hb:H.get b=some (.cells cs e ro)) (hc:Vf H.next cs cs1)
  (t:(∀x o,H.get x=some o->x < H.next)->Told D Φ v2 ((H.alloc (.vec k [] false)).put b (.cells cs1 e ro))):Told D Φ v H
 | TQ {v:Value} {H:AA} (b:Nat) (k:EK) (l:List (EK.C k)) (ro:Bool) (n:Nat) (hb:H.get b=some (.vec k l ro)) (t:Told D Φ v (H.put b (.vec k (l.take n) ro))):Told D Φ v H
 | JN {v:Value} {H:AA} (b:Nat) (k:EK) (l:List (EK.C k)) (ro:Bool) (hb:H.get b=some (.cells (Ac k l) k.length ro)) (t:Told D Φ v (H.put b (.vec k l ro))):Told D Φ v H
 | shut {v:Value} {H:AA} (s:Pk) (objs:Ay) (bs rs:AP) (hr:Bh s objs) (hne:objs≠[]) (hlen:bs.length=objs.length) (hnd:bs.Nodup) (hrs:∀b∈rs,b∈Am 4 v\/D b) (hreach:∀b∈bs,Ia H rs b)
  (hobj:∀(i b:Nat)(o:AJ),bs[i]? = some b->objs[i]? = some o->∃o1,H.get b=some o1/\o1.ro=false/\o1.Kl=true/\BF (R7 bs (DO s)) o=some o1) (hroot:∀o T,objs[0]? = some o->¬o.void T) (t:Told D Φ v (J2 s bs H)):Told D Φ v H
 | members {v:Value} {H:AA} (r:Nat) (zs:List (Nat × Pk)) (rs:AP) (hr:H.get r=some (.vec [.tok] (zs.map fun p=>Value.pointer (some ⟨p.1,0,none⟩)) false)) (hz:∀p∈zs,H.get p.1=some (.abs (.pack p.2) false)/\DO p.2=[]) (hnd:(zs.map Prod.fst).Nodup) (hne:zs≠[]) (hrs:∀b∈rs,b∈Am 4 v\/D b) (hreach:∀p∈zs,Ia H rs p.1)
  (t:(∀x o,H.get x=some o->x < H.next)->Told D Φ v (E9 r zs H.next [] (H.alloc (.abs (.Bk []) false))).2):Told D Φ v H
 | wU {v:Value} {H:AA} (r:Nat) (k:EK) (l:List (EK.C k)) (ro:Bool) (hr:H.get r=some (.vec k l ro)) (hl:l≠[]) (hk:k.length≠0) (v2:Value) (hv:vz r v v2) (b:Nat) (cs cs1:AL) (e:Nat) (ro2:Bool) (hb:H.get b=some (.cells cs e ro2)) (hc:eh r cs cs1) (t:Told D Φ v2 (H.put b (.cells cs1 e ro2))):Told D Φ v H
 | xn {v:Value} {H:AA} (r:Nat) (k:EK) (l:List (EK.C k)) (ro:Bool) (hr:H.get r=some (.vec k l ro)) (hl:l≠[]) (hk:k.length≠0) (v2:Value) (hv:vz r v v2) (t:Told D Φ v2 H):Told D Φ v H
theorem Told.ok{base:Env}{W0:World}{D:Nat->Prop}{Φ:H5}(hD:∀b,D b->∃T,base.gN b=some T){v:Value}{H:AA}(h:Told D Φ v H):(∃Z W v',AF Z v v'/\AH base W0 Z H W)->
 ∃v2 H2,Φ v2 H2/\∀μ1 W1 v',AF μ1 v v'->AH base W0 μ1 H W1->∃μ2,μ1.le μ2/\AH base W0 μ2 H2 W1/\AF μ2 v2 v':=by
 have ZJ:∀{v:Value}{H:AA}{a:Nat}{Z:AW}{W:World}{v':Value},(a∈Am 4 v\/D a)->AF Z v v'->AH base W0 Z H W->∃T,Z a=some T:=by
  intro v H a Z W v' ha hv hH;rcases ha with ha | ha
  .exact Fb (Af.cons hv .nil) a (by simpa using ha)
  .obtain⟨T,hT⟩:=hD a ha;exact⟨T,hH.le a T hT⟩
 have stepV:∀{v v2:Value}{H:AA}{k:EK}{a:Nat},k.length≠0->(a∈Am 4 v\/D a)->rT H.next v v2->∀μ1 W1 v',AF μ1 v v'->AH base W0 μ1 H W1->∃μ2,μ1.le μ2/\(∃T,μ2 H.next=some T)/\AH base W0 μ2 (H.alloc (.vec k [] false)) W1/\AF μ2 v2 v':=by
  intro v v2 H k a hk ha hz μ1 W1 v' hv hH;obtain⟨T,hT⟩:=ZJ ha hv hH;obtain⟨r1,r2⟩:=hH.F3 hT hk false;exact⟨_,r2.le,⟨_,AW.AY _ _ _⟩,r1,hz.QT r2.le (AW.AY _ _ _) hv⟩
 have stepC:∀{v v2:Value}{H:AA}{k:EK}{a b e:Nat}{cs cs1:AL}{ro:Bool},k.length≠0->(a∈Am 4 v\/D a)->rT H.next v v2->H.get b=some (.cells cs e ro)->Vf H.next cs cs1->∀μ1 W1 v',AF μ1 v v'->AH base W0 μ1 H W1->
  ∃μ2,μ1.le μ2/\AH base W0 μ2 ((H.alloc (.vec k [] false)).put b (.cells cs1 e ro)) W1/\AF μ2 v2 v':=by
  intro v v2 H k a b e cs cs1 ro hk ha hz hb hc μ1 W1 v' hv hH;obtain⟨μ2,g1,⟨T,hT⟩,g2,g3⟩:=stepV (k:=k) hk ha hz μ1 W1 v' hv hH;refine⟨μ2,g1,?_,g3⟩;have hb1:(H.alloc (.vec k [] false)).get b=some (.cells cs e ro):=by rw[AA.AN,AAW (by have:=hH.lt hb;omega)];exact hb
  refine g2.swap hb1 (fun T2 o2 _ ho=>?_) rfl rfl rfl (fun _ _ hv=>hv);cases ho with
  | cells _ _ _ c3 t lo hi he hc2 hr hf=>
   refine .cells T2 _ e ro c3 t lo hi he ?_ hr hf;rw[<-hc.length];exact hc.iU (AW.le_refl _) hT hc2
 induction h with
 | here h=>exact fun _=>⟨_,_,h,fun μ1 W1 v' hv hH=>⟨μ1,AW.le_refl _,hH,hv⟩⟩
 | kX k hk a ha v2 hz t ih=>
  rintro⟨Z,W,v',hv,hH⟩;obtain⟨μ2,g1,_,g2,g3⟩:=stepV (k:=k) hk ha hz Z W v' hv hH;obtain⟨v3,H3,h3,k3⟩:=ih (fun x o hx=>hH.lt hx) ⟨μ2,W,v',g3,g2⟩;refine⟨v3,H3,h3,fun μ1 W1 w' hw hH1=>?_⟩;obtain⟨μ5,f1,_,f2,f3⟩:=stepV (k:=k) hk ha hz μ1 W1 w' hw hH1;obtain⟨μ6,e1,e2,e3⟩:=k3 μ5 W1 w' f3 f2;exact⟨μ6,AW.le_trans f1 e1,e2,e3⟩
 | Vw k hk a ha v2 hz b cs cs1 e ro hb hc t ih=>
  rintro⟨Z,W,v',hv,hH⟩;obtain⟨μ2,g1,g2,g3⟩:=stepC (k:=k) hk ha hz hb hc Z W v' hv hH;obtain⟨v3,H3,h3,k3⟩:=ih (fun x o hx=>hH.lt hx) ⟨μ2,W,v',g3,g2⟩;refine⟨v3,H3,h3,fun μ1 W1 w' hw hH1=>?_⟩;obtain⟨μ5,f1,f2,f3⟩:=stepC (k:=k) hk ha hz hb hc μ1 W1 w' hw hH1;obtain⟨μ6,e1,e2,e3⟩:=k3 μ5 W1 w' f3 f2;exact⟨μ6,AW.le_trans f1 e1,e2,e3⟩
 | TQ b k l ro n hb t ih=>
  rintro⟨Z,W,v',hv,hH⟩;obtain⟨v3,H3,h3,k3⟩:=ih ⟨Z,W,v',hv,hH.TQ n hb⟩;exact⟨v3,H3,h3,fun μ1 W1 w' hw hH1=>k3 μ1 W1 w' hw (hH1.TQ n hb)⟩
 | JN b k l ro hb t ih=>
  rintro⟨Z,W,v',hv,hH⟩;obtain⟨v3,H3,h3,k3⟩:=ih ⟨Z,W,v',hv,hH.JN hb⟩;exact⟨v3,H3,h3,fun μ1 W1 w' hw hH1=>k3 μ1 W1 w' hw (hH1.JN hb)⟩
 | shut s objs bs rs hr hne hlen hnd hrs hreach hobj hroot t ih=>
  have st:∀Z W v',AF Z _ v'->AH base W0 Z _ W->AH base W0 Z (J2 s bs _) W:=fun Z W v' hv hH=>
   (hH.shut hr hnd hlen hne (fun b hb=>Ia.Yk hH (fun c hc=>ZJ (hrs c hc) hv hH) (hreach b hb)) hobj (Ez hnd) hroot).1
  rintro⟨Z,W,v',hv,hH⟩;obtain⟨v3,H3,h3,k3⟩:=ih ⟨Z,W,v',hv,st Z W v' hv hH⟩;exact⟨v3,H3,h3,fun μ1 W1 w' hw hH1=>k3 μ1 W1 w' hw (st μ1 W1 w' hw hH1)⟩
 | @members v H r zs rs hr hz hnd hne hrs hreach t ih=>
  have st:∀Z W v',AF Z v v'->AH base W0 Z H W->∃μ2,Z.le μ2/\AH base W0 μ2 (E9 r zs H.next [] (H.alloc (.abs (.Bk []) false))).2 W:=fun Z W v' hv hH=>by
   have hd:∀p∈zs,∃T,Z p.1=some T:=fun p hp=>Ia.Yk hH (fun c hc=>ZJ (hrs c hc) hv hH) (hreach p hp)
   obtain⟨p0,hp0⟩:=List.exists_mem_of_ne_nil _ hne;obtain⟨T,hT⟩:=hd p0 hp0;have h2:=hH.gX hT;have hle:=AW.CV ⟨T.c,0,0,CO []⟩ (hH.fresh H.next (AAT _)).2;obtain⟨μ2,k1,k2⟩:=AH.bN (r:=r) zs H.next [] _ _ h2 (by rw[AA.AN,AAZ rfl]) ⟨_,AW.AY _ _ _⟩ (by rw[AA.AN,AAW (AB3 (hH.lt hr))];exact hr) (fun p hp=>by
    obtain⟨f1,f2⟩:=hz p hp;obtain⟨M,hM⟩:=hd p hp;exact⟨by rw[AA.AN,AAW (AB3 (hH.lt f1))];exact f1,f2,M,hle _ _ hM⟩) hnd
   exact⟨μ2,AW.le_trans hle k1,k2⟩
  rintro⟨Z,W,v',hv,hH⟩;obtain⟨μ2,g1,g2⟩:=st Z W v' hv hH;obtain⟨v3,H3,h3,k3⟩:=ih (fun x o hx=>hH.lt hx) ⟨μ2,W,v',hv.mono g1,g2⟩;refine⟨v3,H3,h3,fun μ1 W1 w' hw hH1=>?_⟩;obtain⟨μ5,f1,f2⟩:=st μ1 W1 w' hw hH1;obtain⟨μ6,e1,e2,e3⟩:=k3 μ5 W1 w' (hw.mono f1) f2;exact⟨μ6,AW.le_trans f1 e1,e2,e3⟩
 | @wU v H r k l ro hr hl hk v2 hv2 b cs cs1 e ro2 hb hc t ih=>
  have st:∀Z W v',AF Z v v'->AH base W0 Z H W->AH base W0 Z (H.put b (.cells cs1 e ro2)) W/\AF Z v2 v':=fun Z W v' hv hH=>by
   have hn:=hH.Y1 hr hl hk;refine⟨hH.swap hb (fun T2 o2 _ ho=>?_) rfl rfl rfl (fun _ _ hv=>hv),hv2.QT hn hv⟩;cases ho with
   | cells _ _ _ c3 t lo hi he hc2 hr hf=>
    refine .cells T2 _ e ro2 c3 t lo hi he ?_ hr hf;rw[<-hc.length];exact hc.iU hn hc2
  rintro⟨Z,W,v',hv,hH⟩;obtain⟨g1,g2⟩:=st Z W v' hv hH;obtain⟨v3,H3,h3,k3⟩:=ih ⟨Z,W,v',g2,g1⟩;exact⟨v3,H3,h3,fun μ1 W1 w' hw hH1=>k3 μ1 W1 w' (st μ1 W1 w' hw hH1).2 (st μ1 W1 w' hw hH1).1⟩
 | @xn v H r k l ro hr hl hk v2 hv2 t ih=>
  rintro⟨Z,W,v',hv,hH⟩;obtain⟨v3,H3,h3,k3⟩:=ih ⟨Z,W,v',hv2.QT (hH.Y1 hr hl hk) hv,hH⟩;exact⟨v3,H3,h3,fun μ1 W1 w' hw hH1=>k3 μ1 W1 w' (hv2.QT (hH1.Y1 hr hl hk) hw) hH1⟩
theorem AZ.L5{X:Ctx}{N:Nat}{D:Nat->Prop}{f:FuncId}{Φ:H5}{c:BU}(h:AZ X N D f (Told D Φ) c):AZ X N D f Φ c:=by
 intro base W0 hb0 hDm hok hplan cs0 Z fr cs W hm;obtain⟨c',v,H,v1,H1,h1,h3,μ1,fr1,cs1,W1,s1,m1,h2⟩:=h base W0 hb0 hDm hok hplan cs0 Z fr cs W hm;obtain⟨v2,H2,k1,k2⟩:=h3.ok hDm (by
  obtain⟨_,_,v',e1,e2,e3⟩:=KA m1 h1;obtain⟨μ4,g0,g1,g2⟩:=h2 v' e3 e2;exact⟨μ4,W1,v',g2,g1⟩)
 refine⟨c',v,H,v2,H2,h1,k1,μ1,fr1,cs1,W1,s1,m1,fun v' hv hH=>?_⟩;obtain⟨μ2,g0,g1,g2⟩:=h2 v' hv hH;obtain⟨μ3,f0,f1,f2⟩:=k2 μ2 W1 v' g2 g1;exact⟨μ3,AW.le_trans g0 f0,f1,f2⟩
def mo(sz bytes b off len i n:Nat)(new:AL)(H:AA):Option (Value × AA):=
 match H.get b with
 | some (.cells cs e false)=>
  let GM:=(cs.drop off).take (len * sz)
  bif Nat.beq GM.length (len * sz)&&Nat.beq e sz&&GM.all Bc&&new.all Bc&&Nat.ble ((2 * (len+n)+192) * bytes) 281474976710656&&Nat.ble (len+n) 4611686018427387904 then
   some (.slice (some ⟨H.next,0,none⟩) (len+n) (AT+(len+n)),(H.del b).alloc (.cells (GM.take (i * sz)++(new++GM.drop (i * sz))) sz false))
  else none
 | _=>none
def Re(o:Option AJ):Bool:=
 match o with
 | some (.cells _ e false)=> !(Nat.beq e 1)
 | _=>false
def K2(sz bytes:Nat):DL:=fun args H=>
 match args with
 | [.slice (some ⟨b,off,none⟩) len cap,.int .i64 (.ofNat i),.slice (some ⟨vb,voff,none⟩) m vcap]=>
  bif Nat.ble AT cap&&Nat.blt i len&& !(Nat.beq vb b)&& !(Nat.beq m 0)&&Re (H.get vb)then
   match Ek sz (.slice (some ⟨vb,voff,none⟩) m vcap) H with
   | some (n,new)=>mo sz bytes b off len i n new H
   | none=>none
  else none
 | _=>none
theorem Hr(c:Nat)(t:TypeId)(fz:Nat × Nat):∀(l:AL)(o:Nat)(a:BE)(w:World),w.heap[c]? = some (.cells a t fz)->o+l.length<=a.size->
 ∃a':BE,(w.setCells c o l).heap[c]? = some (.cells a' t fz)/\a'.toList=Be a.toList o l/\a'.size=a.size/\(w.setCells c o l).heap.size=w.heap.size/\(∀i,i≠c->(w.setCells c o l).heap[i]? = w.heap[i]?)/\(w.setCells c o l).output=w.output/\(w.setCells c o l).os=w.os:=by
 intro l;induction l with
 | nil=>intro o a w hw _;exact⟨a,hw,by rw[Ja],rfl,rfl,fun _ _=>rfl,rfl,rfl⟩
 | cons v l ih=>
  intro o a w hw hlen;simp only[AAz]at hlen;have hw1:(w.setCell ⟨c,o,none⟩ v).heap[c]? = some (.cells (a.setIfInBounds o v) t fz):=by
   simp only[World.setCell,AB2,ACA,hw];rfl
  obtain⟨a',r1,r2,r2b,r3,r4,r5,r6⟩:=ih (o+1) (a.setIfInBounds o v) (w.setCell ⟨c,o,none⟩ v) hw1 (by simp;omega);refine⟨a',r1,?_,by rw[r2b];simp,?_,?_,r5,r6⟩
  .rw[r2,HI _ _ _ _ (by simp;omega),ACH]
  .show((w.setCell ⟨c,o,none⟩ v).setCells c (o+1) l).heap.size=_;rw[r3];simp[World.setCell]
  .intro i hi;show((w.setCell ⟨c,o,none⟩ v).setCells c (o+1) l).heap[i]? = _;rw[r4 i hi];simp only[World.setCell,AB2];rw[AAW (ABB hi)]
def QH(P:Program)(f:FuncId)(k:Nat):Prop:=∀(b off n c i vb voff m vc:Nat)(cs vs:AL)(w:World),i < n->0 < m->n+m<=c->c<=9223372036854775807->vb≠b->
 cs.length=n * k->vs.length=m * k->
 (∀j v,cs[j]? = some v->w.cell? ⟨b,off+j,none⟩=some v)->(∀j,j < (n+m) * k->(w.cell? ⟨b,off+j,none⟩).isSome=true)->(∀j,j < (n+m) * k->w.frozen? ⟨b,off+j,none⟩=false)->
 (∀j v,vs[j]? = some v->w.cell? ⟨vb,voff+j,none⟩=some v)->(∀v∈cs,v.oneCell'=true)->(∀v∈vs,v.oneCell'=true)->
 ∀(tA tB:TypeId)(kA kB:Nat),w.shape? vb=some (tA,kA)->w.shape? b=some (tB,kB)->kB≠0->w.frozen? ⟨vb,voff,none⟩=false->w.frozen? ⟨vb,kA,none⟩=false->
 Calls P f #[.slice (some ⟨b,off,none⟩) n c,.int .i64 i,.slice (some ⟨vb,voff,none⟩) m vc] w fun e w'=>
  e= .returned (.slice (some ⟨b,off,none⟩) (n+m) c)/\w'=(w.drew.setCells b (off+(i+m) * k) (cs.drop (i * k))).setCells b (off+i * k) vs
def UO(P:Program)(f:FuncId)(k B:Nat)(E:TypeId):Prop:=∀(b off n c i vb voff m vc:Nat)(cs vs:AL)(w:World),i < n->0 < m->n<=c->c < n+m->(2 * (n+m)+192) * B<=281474976710656->
 cs.length=n * k->vs.length=m * k->
 (∀j v,cs[j]? = some v->w.cell? ⟨b,off+j,none⟩=some v)->
 (∀j v,vs[j]? = some v->w.cell? ⟨vb,voff+j,none⟩=some v)->(∀v∈cs,v.oneCell'=true)->(∀v∈vs,v.oneCell'=true)->
 Calls P f #[.slice (some ⟨b,off,none⟩) n c,.int .i64 i,.slice (some ⟨vb,voff,none⟩) m vc] w fun e w'=>
  ∃(G:Nat) (ROW:BE),n+m<=G/\ROW.size=G * k/\ROW.toList.take (i * k)=cs.take (i * k)/\e= .returned (.slice (some ⟨w.heap.size,0,none⟩) (n+m) G)/\G<=9223372036854775807/\
   w'=(((w.alloc (.cells ROW E)).drew.setCells w.heap.size (i * k) vs).drew).setCells w.heap.size ((i+m) * k) (cs.drop (i * k))
theorem Sz(A B D:AL)(y:Nat):Be (A++B) (A.length+y) D=A++Be B y D:=by
 unfold Be;rw[ADC,AAc (by omega),AA2]
 congr 1
 rw[show A.length+y - A.length=y by omega]
 congr 2
 rw[show A.length+y+D.length=A.length+(y+D.length) by omega,ACr];rw[ACp (by omega),ABC,show A.length+(y+D.length) - A.length=y+D.length by omega]
theorem bu(A D V:AL)(x y:Nat)(hxy:x+V.length=y)(hy:y+D.length<=A.length):(Be (Be A y D) x V).take (x+V.length+D.length)=A.take x++(V++D):=by
 unfold Be;have h1:(A.take y++(D++A.drop (y+D.length))).take x=A.take x:=by
  rw[AA0 (by rw[AAh];omega),ABi,ABX (by omega)]
 have h2:(A.take y++(D++A.drop (y+D.length))).drop (x+V.length)=D++A.drop (y+D.length):=by
  rw[hxy,ACr,ACp (by rw[AAh];omega),ABC,AAh,ABX (by omega),ABQ,AA5]
 rw[h1,h2,<-AA2,<-AA2,<-AA2,AA0 (by simp;omega),AAc (by simp;omega),AA2]
theorem Yw(A D V:AL)(x y:Nat)(hxy:x+V.length=y)(hy:y+D.length<=A.length):(Be (Be A x V) y D).take (x+V.length+D.length)=A.take x++(V++D):=by
 unfold Be;have h1:(A.take x++(V++A.drop (x+V.length))).take y=A.take x++V:=by
  rw[<-AA2,AA0 (by simp;omega),AAc (by simp;omega)]
 rw[h1,<-AA2,AA0 (by simp;omega),AAc (by simp;omega),AA2]
section
variable {P:Program}{laid:DD}
theorem Oh{W:World}{c:Nat}{arr:BE}{t:TypeId}{fz:Nat × Nat}(hob:W.heap[c]? = some (.cells arr t fz)){d n j:Nat}{v:Value}(h:((arr.toList.drop d).take n)[j]? = some v):W.cell? ⟨c,d+j,none⟩=some v:=by
 rw[ABO]at h;split at h
 .rw[ABP]at h;simp only[World.cell?,hob];simpa using h
 .cases h
theorem OR{Z:AW}{l l':AL}(h:Af Z l l')(hok:l.all Bc=true):∀v∈l',v.oneCell'=true:=by
 intro q hq;obtain⟨k,hk,rfl⟩:=ACT hq;have hl:=h.length;have hk2:k < l.length:=by omega
 exact Jh (h.idx k hk2 hk) (List.all_eq_true.1 hok _ (ABz hk2))
theorem P7{f:FuncId}{k B:Nat}{E:TypeId}(P1:∃n c,entry P f=some (n,c))(hk0:0 < k)(hk1:k≠1)(hS:QH P f k)(hG:UO P f k B E):CH P laid f (K2 k B):=by
 refine⟨P1,?_⟩;intro base W0 Z H W args args' v H' hW h hl ha hF;unfold K2 at hF;split at hF
 .rename_i b off len cap i vb voff m vcap;cases hc0:(Nat.ble AT cap&&Nat.blt i len&& !(Nat.beq vb b)&& !(Nat.beq m 0)&&Re (H.get vb))
  .simp only[hc0,AAR]at hF;cases hF
  simp only[hc0,AAO]at hF;simp only[AAQ,ABd]at hc0;obtain⟨⟨⟨⟨g1,g2⟩,g3⟩,g4⟩,g5⟩:=hc0;have g1:=VC g1;have g2:i < len:=VC g2;have g3:vb≠b:=by rintro rfl;rw[AAu]at g3;cases g3
  have g4:m≠0:=by rintro rfl;cases g4
  generalize hq:args'.toList=q at ha;cases ha with
  | cons h1 ha=>cases ha with
   | cons h2 ha=>cases ha with
    | cons h3 ha=>
     cases ha
     cases h2
     cases h1 with
     | slice _ _ _ _ cap' o' T hm hcr ho=>
      cases h3 with
      | slice _ _ _ _ vcap' vo' T2 hm2 hcr2 ho2=>
       have hargs:args'=#[.slice (some ⟨T.c,o',none⟩) len cap',.int .i64 (Int.ofNat i),.slice (some ⟨T2.c,vo',none⟩) m vcap']:=by rw[<-ABx,hq]
       subst hargs;have hcr':cap - AT<=cap'/\len<=cap'/\off+cap' * T.e<=T.r/\(T.e=1\/cap'<=9223372036854775807):=by
        rcases hcr with⟨c1,c2⟩ | ⟨c1,c2,c3,c4,c5⟩
        .omega
        .exact⟨c2,c3,c4,c5⟩
       obtain⟨c2,c3,c4,c5⟩:=hcr';have hoo:o'=T.d+off:=by
        rcases ho with ho | ⟨e1,_⟩
        .exact ho
        .omega
       subst hoo;have hoo2:vo'=T2.d+voff:=by
        rcases ho2 with ho | ⟨e1,_⟩
        .exact ho
        .omega
       subst hoo2;split at hF
       .rename_i n new hsrc;have hmk:m * k≠0:=ADG g4 (by omega);unfold Ek at hsrc;simp only at hsrc;cases hz:Nat.beq (m * k) 0
        .simp only[hz,AAR]at hsrc;split at hsrc
         .rename_i vcs ve vro hgetv;cases hll:Nat.beq ((vcs.drop voff).take (m * k)).length (m * k)
          .simp only[hll,AAR]at hsrc;cases hsrc
          simp only[hll,AAO,AAN,AAm]at hsrc;obtain⟨rfl,rfl⟩:=hsrc;have hvlen:=AAP hll;have hvro:vro=false/\ve≠1:=by
           rw[hgetv]at g5;unfold Re at g5;cases vro
           .refine⟨rfl,?_⟩;rintro rfl;simp at g5
           .simp at g5
          obtain⟨rfl,hve⟩:=hvro;unfold mo at hF;split at hF
          .rename_i cs e hget;simp only at hF;cases hbb:(Nat.beq ((cs.drop off).take (len * k)).length (len * k)&&Nat.beq e k&&((cs.drop off).take (len * k)).all Bc&&((vcs.drop voff).take (m * k)).all Bc&&Nat.ble ((2 * (len+m)+192) * B) 281474976710656&&Nat.ble (len+m) 4611686018427387904)
           .simp only[hbb,AAR]at hF;cases hF
           simp only[hbb,AAO,AAN,AAm]at hF;obtain⟨rfl,rfl⟩:=hF;simp only[AAQ]at hbb;obtain⟨⟨⟨⟨⟨b1,b2⟩,b3⟩,b4⟩,b5⟩,b6⟩:=hbb;have b1:=AAP b1;have b2:=AAP b2;have b5:=VC b5;have b6:=VC b6;subst b2;obtain⟨ob,hob,hor⟩:=h.obj b _ hget T hm;obtain⟨ov,hov,horv⟩:=h.obj vb _ hgetv T2 hm2;cases hor with
           | cells _ _ _ arr t lo hi2 hTe hcl hsz hfz=>
            cases horv with
            | cells _ _ _ varr vt vlo vhi hTe2 hclv hszv hfzv=>
             have hTc:T2.c≠T.c:=fun e1=>g3 (h.inj vb b _ _ hgetv hget T2 T hm2 hm id id e1 (.inr rfl))
             rw[<-hTe]at c4 c5;have hold:Af Z ((cs.drop off).take (len * e)) ((arr.toList.drop (T.d+off)).take (len * e)):=by
              have:=(hcl.drop off).take (len * e);rw[ACe,ACV,ABi,ABX (by rw[AAh,AAo]at b1;omega)]at this;exact this
             have hnew:Af Z ((vcs.drop voff).take (m * e)) ((varr.toList.drop (T2.d+voff)).take (m * e)):=by
              have:=(hclv.drop voff).take (m * e);rw[ACe,ACV,ABi,ABX (by rw[AAh,AAo]at hvlen;omega)]at this;exact this
             have hlo:=hold.length;have hln:=hnew.length;generalize hO:(cs.drop off).take (len * e)=O at hold hlo b1 b3 ⊢;generalize hV:(vcs.drop voff).take (m * e)=V at hnew hln hvlen b4 ⊢;generalize hO':(arr.toList.drop (T.d+off)).take (len * e)=O' at hold hlo;generalize hV':(varr.toList.drop (T2.d+voff)).take (m * e)=V' at hnew hln;have hcsC:∀j v,O'[j]? = some v->W.cell? ⟨T.c,T.d+off+j,none⟩=some v:=fun j v hj=>Oh hob (by rw[hO'];exact hj)
             have hvsC:∀j v,V'[j]? = some v->W.cell? ⟨T2.c,T2.d+voff+j,none⟩=some v:=fun j v hj=>Oh hov (by rw[hV'];exact hj)
             have h1O:=OR hold b3;have h1V:=OR hnew b4;have hie:i * e<=len * e:=AA9 _ (by omega);have hmul:(i+m) * e=i * e+m * e:=ABj _ _ _;have hmul2:(len+m) * e=len * e+m * e:=ABj _ _ _;obtain⟨hdel,hdelE⟩:=h.del hm;have hrel:Af Z (O.take (i * e)++(V++O.drop (i * e))) (O'.take (i * e)++(V'++O'.drop (i * e))):=(hold.take _).append (hnew.append (hold.drop _));have hrl:(O.take (i * e)++(V++O.drop (i * e))).length=len * e+m * e:=by
              simp only[AAf,AAh,AAo];omega
             have hdl:(O'.drop (i * e)).length=len * e - i * e:=by rw[AAo];omega
             have hvsz:T2.d+voff+m * e<=varr.size:=by
              have:=hclv.length;have hx:((varr.toList.drop (T2.d+voff)).take (m * e)).length=m * e:=by rw[hV'];omega
              rw[AAh,AAo,AAy]at hx;omega
             by_cases hfit:len+m<=cap'
             .have hce:(len+m) * e<=cap' * e:=AA9 _ hfit;refine Calls.mono (hS T.c (T.d+off) len cap' i T2.c (T2.d+voff) m vcap' O' V' W g2 (by omega) hfit (by omega) hTc (by omega) (by omega) hcsC ?_ ?_ hvsC h1O h1V vt t varr.size arr.size ?_ ?_ ?_ ?_ ?_) ?_
              .intro j hj;simp only[World.cell?,hob];rw[ABA (by omega)];rfl
              .intro j hj;have:=hfz rfl (T.d+off+j) (.inl (by omega));simp only[World.frozen?,hob,ABf,ABE];omega
              .simp only[World.shape?,hov]
              .simp only[World.shape?,hob]
              .have:0 < (len+m) * e:=ACu (by omega) hk0;omega
              .have:=hfzv rfl (T2.d+voff) (.inl (by have:0 < m * e:=Nat.pos_of_ne_zero hmk;omega));simp only[World.frozen?,hov,ABf,ABE];omega
              .have:=hfzv rfl varr.size (.inr ⟨rfl,hve⟩);simp only[World.frozen?,hov,ABf,ABE];omega
              .rintro ex W' ⟨rfl,rfl⟩;obtain⟨a1,r1,r2,r2b,r3,r4,r5,r6⟩:=Hr T.c t (lo,hi2) (O'.drop (i * e)) (T.d+off+(i+m) * e) arr W.drew hob (by omega);obtain⟨a2,s1,s2,s2b,s3,s4,s5,s6⟩:=Hr T.c t (lo,hi2) V' (T.d+off+i * e) a1 _ r1 (by omega);obtain⟨φ,q⟩:=h.abs;have hmap:=hdel.LM (T:=⟨T.c,T.d+off,T.r - off,e⟩) (o:= .cells (O.take (i * e)++(V++O.drop (i * e))) e false) (W':=(W.drew.setCells T.c (T.d+off+(i+m) * e) (O'.drop (i * e))).setCells T.c (T.d+off+i * e) V')
                (by rw[s3,r3];exact AAT _) (fun j _ hj=>by rw[s4 j hj,r4 j hj];rfl)
                (fun b' p T' hb' hm' hv=>by
                 intro e1;obtain⟨e2,hb2⟩:=AA.BS hb';exact e2 (h.inj b' b _ _ hb2 hget T' T hm' hm hv id e1 (.inr rfl)))
                ⟨φ,⟨fun b' a ro T' h1 h2=>q.rep b' a ro T' (AA.BS h1).2 h2,fun b' a ro T' h1 h2 b2 o2 T2 h3 h4 h5=>q.C3 b' a ro T' (AA.BS h1).2 h2 b2 o2 T2 (AA.BS h3).2 h4 h5⟩,
                 fun b' a ro h1 ⟨T',h2⟩=>(q.C3 b' a ro T' (AA.BS h1).2 h2 b _ T hget hm (ABB (AA.BS h1).1)).1 id⟩
                s1 (h.own b _ hget rfl T hm id) ?_ (by rw[s5,r5];rfl) (by rw[s6,r6];rfl)
               .exact⟨_,_,rfl,hmap.1,.slice H.next 0 _ _ _ _ ⟨T.c,T.d+off,T.r - off,e⟩ (AW.AY _ _ _) (.inr ⟨by omega,by omega,hfit,by show 0+cap' * e<=T.r - off;omega,by show e=1\/_;omega⟩) (.inl rfl),hdelE.trans hmap.2⟩
               .refine .cells ⟨T.c,T.d+off,T.r - off,e⟩ _ _ false _ t lo hi2 rfl ?_ ?_ ?_
                .show Af Z _ (List.take _ (List.drop (T.d+off) a2.toList));have hA:arr.toList=arr.toList.take (T.d+off)++arr.toList.drop (T.d+off):=(ADK _ _).symm;have hAl:(arr.toList.take (T.d+off)).length=T.d+off:=by rw[AAh,AAy];omega
                 generalize hA0:arr.toList.take (T.d+off)=A0 at hA hAl;generalize hA1:arr.toList.drop (T.d+off)=A1 at hA hO';have hA1l:(len+m) * e<=A1.length:=by rw[<-hA1,AAo,AAy];omega
                 have hs2:a2.toList=A0++Be (Be A1 ((i+m) * e) (O'.drop (i * e))) (i * e) V':=by
                  rw[s2,r2,hA];rw[show T.d+off+(i+m) * e=A0.length+(i+m) * e by omega,Sz];rw[show T.d+off+i * e=A0.length+i * e by omega,Sz]
                 rw[hs2,hrl,List.drop_left' hAl];have hup:=bu A1 (O'.drop (i * e)) V' (i * e) ((i+m) * e) (by omega) (by omega);rw[show i * e+V'.length+(O'.drop (i * e)).length=len * e+m * e by omega]at hup;rw[hup,show A1.take (i * e)=O'.take (i * e) by rw[<-hO',ABi,ABX hie]];exact hrel
                .show a2.size=T.d+off+(T.r - off);omega
                .intro _ j hj;refine hfz rfl j ?_;have:a2.size=arr.size:=by omega
                 rw[<-this];exact hj
             .refine Calls.mono (hG T.c (T.d+off) len cap' i T2.c (T2.d+voff) m vcap' O' V' W g2 (by omega) c3 (by omega) b5 (by omega) (by omega) hcsC hvsC h1O h1V) ?_;rintro ex W' ⟨G,ROW,z1,z2,z3,rfl,z4,rfl⟩;have hGe:(len+m) * e<=G * e:=AA9 _ z1;have hal:(W.alloc (.cells ROW E)).drew.heap[W.heap.size]? = some (.cells ROW E (0,0)):=by
               show(W.heap.push _)[W.heap.size]? = _;simp
              obtain⟨a1,r1,r2,r2b,r3,r4,r5,r6⟩:=Hr W.heap.size E (0,0) V' (i * e) ROW (W.alloc (.cells ROW E)).drew hal (by omega);obtain⟨a2,s1,s2,s2b,s3,s4,s5,s6⟩:=Hr W.heap.size E (0,0) (O'.drop (i * e)) ((i+m) * e) a1 (((W.alloc (.cells ROW E)).drew.setCells W.heap.size (i * e) V').drew) r1 (by omega);have hpush:(W.alloc (.cells ROW E)).drew.heap.size=W.heap.size+1:=by
               show(W.heap.push _).size=_;simp
              obtain⟨φ,q⟩:=hdel.abs;have hmap:=hdel.LM (T:=⟨W.heap.size,0,G * e,e⟩) (o:= .cells (O.take (i * e)++(V++O.drop (i * e))) e false) (W':=(((W.alloc (.cells ROW E)).drew.setCells W.heap.size (i * e) V').drew).setCells W.heap.size ((i+m) * e) (O'.drop (i * e)))
               (by
                rw[s3];show W.heap.size<=((W.alloc (.cells ROW E)).drew.setCells W.heap.size (i * e) V').heap.size;rw[r3,hpush];omega)
               (fun j hjl hj=>by
                rw[s4 j hj];show((W.alloc (.cells ROW E)).drew.setCells W.heap.size (i * e) V').heap[j]? = _;rw[r4 j hj];show(W.heap.push _)[j]? = _;rw[ACU,AAW (by omega)])
               (fun b' p T' hb' hm' _=>by have:=hdel.bound b' T' hm';show T'.c≠W.heap.size;omega)
               ⟨φ,q,fun b' a ro hb' ⟨T',hm'⟩ hc=>by
                have:=(Ga.JO _ _ _ _ (q.rep b' a ro T' hb' hm').1).2 _ hc;exact absurd this (ABY _)⟩
               s1 (fun hk=>absurd (hdel.size _ hk) (ABY _)) ?_ (by rw[s5];show((W.alloc (.cells ROW E)).drew.setCells W.heap.size (i * e) V').output=_;rw[r5];rfl) (by rw[s6];show((W.alloc (.cells ROW E)).drew.setCells W.heap.size (i * e) V').os=_;rw[r6];rfl)
              .exact⟨_,_,rfl,hmap.1,.slice H.next 0 _ _ _ _ ⟨W.heap.size,0,G * e,e⟩ (AW.AY _ _ _) (.inr ⟨by omega,by omega,z1,by show 0+G * e<=G * e;omega,.inr z4⟩) (.inl rfl),hdelE.trans hmap.2⟩
              .refine .cells ⟨W.heap.size,0,G * e,e⟩ _ _ false _ E 0 0 rfl ?_ ?_ (fun _ j _=>by omega)
               .show Af Z _ (List.take _ (List.drop 0 a2.toList));rw[AA5,s2,r2,hrl];have hup:=Yw ROW.toList (O'.drop (i * e)) V' (i * e) ((i+m) * e) (by omega) (by have e5:ROW.toList.length=ROW.size:=AAy;rw[e5];omega);rw[show i * e+V'.length+(O'.drop (i * e)).length=len * e+m * e by omega]at hup;rw[hup,z3];exact hrel
               .show a2.size=0+G * e;omega
          .cases hF
         .cases hsrc
        .exact absurd (AAP hz) hmk
       .cases hF
 .cases hF
end
theorem OD{P:Program}{laid:DD}{fs:List (FuncId × DL)}(hfs:CQ P laid fs){k:M6}{n N:Nat}(hs:PK P laid k n N=true){c':BU}{H1:AA}(hrun:GO (BY P laid fs) (Du k.f (CP 0 k.args .leaf) n (BN P k.f []) (I4 laid N)) c')(hd:EV (BY P laid fs) k.f c'=some (k.v,H1)):Il P laid k:=by
 simp only[PK,AAQ]at hs;obtain⟨⟨⟨⟨⟨h1,h2⟩,h3⟩,h4⟩,h5⟩,h6⟩:=hs;have he:entry P k.f=some (n,BN P k.f []):=by
  cases h:entry P k.f with
  | none=>rw[h]at h6;cases h6
  | some p=>
   obtain⟨m,c⟩:=p;rw[h]at h6;rw[<-AAP h6];rw[<-h];exact ij h
 exact⟨⟨n,_,he⟩,fun _ _ _ _ _ _ hW hH ha=>dI (X:=⟨P,laid,fun _=>none,MN P⟩) (BY P laid fs) rfl rfl hW (fun base W0 hW=>hfs.Hp base W0 hW) (Gq h1 rfl) he h2 (VC h3) (MO h4) hrun hd h5 hH ha⟩
def k9(X:Ctx)(f:FuncId)(n:Nat)(c:BU):DJ:=match b9 X n c with
 | some c'=>match EV X f c' with
  | some p=>some p.1
  | none=>none
 | none=>none
theorem cK{P:Program}{laid:DD}{fs:List (FuncId × DL)}(hfs:CQ P laid fs){k:M6}{n N:Nat}(hs:PK P laid k n N=true){c1:BU}{m:Nat}(hrun:GO (BY P laid fs) (Du k.f (CP 0 k.args .leaf) n (BN P k.f []) (I4 laid N)) c1)(hl:k9 (BY P laid fs) k.f m c1=some k.v):Il P laid k:=by
 unfold k9 at hl;split at hl
 .rename_i c' hc;split at hl
  .rename_i p hp;obtain⟨v,H1⟩:=p;cases hl
   exact OD hfs hs (GO.trans hrun (GO.run _ hc)) hp
  .cases hl
 .cases hl
structure PL where
 v:Value
 nx:Pk
 news:Ay
inductive PT where
 | fail
 | ret (x:PL)
 | test (c:Bool) (a b:PT)
 | ask (p:Prop) (a:PT)
def PT.gt:PT->GT
 | .fail=> .fail
 | .ret x=> .ret ⟨x.v,[some (.abs (.pack x.nx) false)],x.news⟩
 | .test c a b=> .test c a.gt b.gt
 | .ask p a=> .ask p a.gt
def PT.Ut(Φ:PL->Prop):PT->Prop
 | .fail=>True
 | .ret x=>Φ x
 | .test c a b=>(c=true->a.Ut Φ)/\(c=false->b.Ut Φ)
 | .ask p a=>p->a.Ut Φ
theorem PT.NQ{Φ:PL->Prop}:∀{t:PT},t.Ut Φ->∀{y:Vp},t.gt.run=some y->∃x,Φ x/\y=⟨x.v,[some (.abs (.pack x.nx) false)],x.news⟩
 | .fail,_,_,h=>by cases h
 | .ret x,hx,_,h=>by cases h;exact⟨x,hx,rfl⟩
 | .test c a b,hx,y,h=>by
  cases c
  .exact PT.NQ (t:=b) (hx.2 rfl) h
  .exact PT.NQ (t:=a) (hx.1 rfl) h
 | .ask p a,hx,y,h=>by
  simp only[PT.gt,GT.run]at h;split at h
  .rename_i hp;exact PT.NQ (t:=a) (hx hp) h
  .cases h
theorem PT.Ut.mono{Φ Ψ:PL->Prop}:∀{t:PT},t.Ut Φ->(∀x,Φ x->Ψ x)->t.Ut Ψ
 | .fail,_,_=>trivial
 | .ret x,h,hi=>hi x h
 | .test _ _ _,h,hi=>⟨fun hc=>PT.Ut.mono (h.1 hc) hi,fun hc=>PT.Ut.mono (h.2 hc) hi⟩
 | .ask _ _,h,hi=>fun hp=>PT.Ut.mono (h hp) hi
abbrev Gz:=Pk->AL->Ay->PT
def Cl(N:Nat)(q:Gz)(args:AL)(objs:Ay):GT:=
 match args,objs with
 | .pointer (some ⟨b,0,none⟩)::rest,.abs (.pack s) _::os=>bif Nat.beq b N then(q s rest os).gt else .fail
 | _,_=> .fail
structure HM(laid:DD)(N m:Nat)(s:Pk)(v0:Value)(news:Ay)(v:Value)(H:AA):Prop where
 e:∃(bs:AP) (objs:Ay) (ns:AP),Bh s objs/\bs.Nodup/\bs.length=objs.length/\bs[0]? = some N/\(∀b∈bs,Ia H [N] b)/\
  (∀(i b:Nat)(o:AJ),bs[i]? = some b->objs[i]? = some o->∃o1,H.get b=some o1/\o1.ro=false/\o1.Kl=true/\BF (R7 bs (DO s)) o=some o1)/\(∀o T,objs[0]? = some o->¬o.void T)/\
  ns.Nodup/\(∀b∈ns,N+m<=b/\b∉bs)/\ns.length=news.length/\EI (D1.J0 laid N m ns) v0=some v/\
  (∀(j b:Nat)(o:AJ),ns[j]? = some b->news[j]? = some o->∃o1,BF (D1.J0 laid N m ns) o=some o1/\H.get b=some o1)
theorem HM.shut{laid:DD}{N m:Nat}{s:Pk}{v0 v:Value}{news:Ay}{H:AA}(h:HM laid N m s v0 news v H)(hm:0 < m)(_hx:(AJ.abs (.pack s) false).ro=false:=by rfl)(hxt:DO s=[]):
 ∃H2,Ho (fun b=>N<=b/\b < N+m) v H H2/\D1 laid N m [true] ⟨v0,[some (.abs (.pack s) false)],news⟩ v H2:=by
 obtain⟨bs,objs,ns,h1,h2,h3,h4,h5,h6,h7,h8,h9,h10,h11,h12⟩:=h.e;have hne:objs≠[]:=by
  rintro rfl;rw[ACk]at h3;rw[List.length_eq_zero_iff.1 h3]at h4;cases h4
 have hS:=Ez (s:=s) (H:=H) h2;refine⟨J2 s bs H,.qv s objs bs [N] h1 hne h3 h2 (fun b hb=>?_) h5 h6 h7 (.refl _),ns,h8,fun b hb=>(h9 b hb).1,h10,h11,fun j b o hb ho=>?_,fun j o hj hmj ho=>?_⟩
 .rw[AAg]at hb;subst hb;exact .inr ⟨AAT _,by omega⟩
 .obtain⟨o1,g1,g2⟩:=h12 j b o hb ho;exact⟨o1,g1,by rw[hS.GM b (h9 b (AA1 hb)).2];exact g2⟩
 .cases j with
  | zero=>
   cases ho
   refine⟨.abs (.pack s) false,?_,by rw[AB6];exact hS.root N h4⟩;simp only[BF];have:(CR.pack s).HY=true:=by show xe (DO s)=true;rw[hxt];rfl
   rw[this];rfl
  | succ j=>cases ho
theorem Dq{P:Program}{laid:DD}{fs:List (FuncId × DL)}{N:Nat}(hfs:CQ P laid fs)(hm:P.follows .mixedOrders=true)(hN:(laid.all fun p=>Nat.blt p.1 N)=true){f:FuncId}{n:Nat}(he:entry P f=some (n,BN P f [])){q:Gz}(hx:∀s,DO s=[])(hrun:∀s rest os,(q s rest os).Ut fun x=>rest.length+1<=n/\∀objs,Bh s objs->
  ∃H',EU (DT ⟨.leaf,N⟩ (.abs (.pack s) false::Eg [true] 1 os)) N false objs H' []/\
   AZ (BY P laid fs) (N+(os.length+1)) (fun b=>N<=b/\b < N+(os.length+1)) f (Told (fun b=>N<=b/\b < N+(os.length+1)) fun v H=>HM laid N (os.length+1) x.nx x.v x.news v H) (Du f (CP 0 (.pointer (some ⟨N,0,none⟩)::rest) .leaf) n (BN P f []) H')):
 CH P laid f (Ab laid N [true] (Cl N q)):=by
 refine Ar hfs hm he hN fun argsc objs y hxr hro=>?_
 unfold Cl at hxr;split at hxr
 .rename_i b rest s ro os;cases hb:Nat.beq b N
  .simp only[hb,AAR,GT.run]at hxr;cases hxr
  .simp only[hb,AAO]at hxr;have hb:=AAP hb;subst hb;have hr0:ro=false:=hro 0 _ rfl rfl;subst hr0;obtain⟨x,⟨g1,g2⟩,rfl⟩:=PT.NQ (hrun s rest os) hxr;refine⟨by simpa using g1,?_⟩;refine AZ.shut (Q:=fun v H=>HM laid b (os.length+1) x.nx x.v x.news v H) ?_ fun v H hE=>hE.shut (ADE _) rfl (hx _)
   refine AZ.opened (b:=b) (s:=s) (ro:=false) ⟨AAT _,by simp⟩ ?_ (fun ops p k h=>by cases h) fun objs hr=>?_
   .show(DT ⟨.leaf,b⟩ (.abs (.pack s) false::Eg [true] 1 os)).get b=_;rw[D5];show(if b < b then _ else _)=_;rw[AAW (ABY _),ABQ];rfl
   .obtain⟨H',h1,h2⟩:=g2 objs hr;refine⟨H',?_,h2.L5⟩;rw[hx s];exact h1
 .cases hxr
theorem F5{N:Nat}{s:Pk}{os:Ay}{o o1:AJ}{ps ps1:Ay}(hl:ps1.length=ps.length)(h0:BF (Hg N (N+(os.length+1)) (ps.length+1)) o=some o1)(hps:∀(i:Nat)(p:AJ),ps[i]? = some p->∃p1,ps1[i]? = some p1/\BF (Hg N (N+(os.length+1)) (ps.length+1)) p=some p1):
 EU (DT ⟨.leaf,N⟩ (.abs (.pack s) false::os)) N false (o::ps) (Dv ((DT ⟨.leaf,N⟩ (.abs (.pack s) false::os)).put N o1) ps1) []:=by
 have hnx:(DT ⟨.leaf,N⟩ (.abs (.pack s) false::os)).next=N+(os.length+1):=by rw[Kr];rfl
 refine TC (by rw[hnx];omega) (fun x hx=>?_) hl (by rw[hnx];exact h0) (by rw[hnx];exact hps);rw[hnx]at hx;rw[D5];show(if x < N then _ else _)=_;rw[AAW (by omega),AAq (by simp;omega)];rfl
def GA(all:AP)(H:AA):AP->Ay->Prop
 | [],[]=>True
 | b::r,o::t=>(∃o1,H.get b=some o1/\o1.ro=false/\o1.Kl=true/\BF (R7 all []) o=some o1)/\GA all H r t
 | _,_=>False
theorem GA.len{all:AP}{H:AA}:∀{bs:AP}{objs:Ay},GA all H bs objs->bs.length=objs.length
 | [],[],_=>rfl
 | _::_,_::_,h=>by simp[GA.len h.2]
 | [],_::_,h=>h.elim
 | _::_,[],h=>h.elim
theorem GA.at{all:AP}{H:AA}:∀{bs:AP}{objs:Ay},GA all H bs objs->∀(i b:Nat)(o:AJ),bs[i]? = some b->objs[i]? = some o->∃o1,H.get b=some o1/\o1.ro=false/\o1.Kl=true/\BF (R7 all []) o=some o1
 | b::r,o::t,h,0,_,_,hb,ho=>by cases hb;cases ho;exact h.1
 | _::_,_::_,h,i+1,_,_,hb,ho=>GA.at h.2 i _ _ hb ho
 | [],_,_,_,_,_,hb,_=>by cases hb
 | _::_,[],h,_,_,_,_,_=>h.elim
def KV(ρ:Ren)(H:AA):AP->Ay->Prop
 | [],[]=>True
 | b::r,o::t=>(∃o1,BF ρ o=some o1/\H.get b=some o1)/\KV ρ H r t
 | _,_=>False
theorem KV.len{ρ:Ren}{H:AA}:∀{bs:AP}{objs:Ay},KV ρ H bs objs->bs.length=objs.length
 | [],[],_=>rfl
 | _::_,_::_,h=>by simp[KV.len h.2]
 | [],_::_,h=>h.elim
 | _::_,[],h=>h.elim
theorem KV.at{ρ:Ren}{H:AA}:∀{bs:AP}{objs:Ay},KV ρ H bs objs->∀(j b:Nat)(o:AJ),bs[j]? = some b->objs[j]? = some o->∃o1,BF ρ o=some o1/\H.get b=some o1
 | b::r,o::t,h,0,_,_,hb,ho=>by cases hb;cases ho;exact h.1
 | _::_,_::_,h,i+1,_,_,hb,ho=>KV.at h.2 i _ _ hb ho
 | [],_,_,_,_,_,hb,_=>by cases hb
 | _::_,[],h,_,_,_,_,_=>h.elim
theorem Sh{laid:DD}{N m:Nat}{s:Pk}{v0 v:Value}{news:Ay}{H:AA}(bs:AP){objs:Ay}(ns:AP)(hr:Bh s objs)(hx:DO s=[])(h0:bs[0]? = some N)(hnd:bs.Nodup)(hreach:∀b∈bs,Ia H [N] b)(hobj:GA bs H bs objs)(hroot:∀o T,objs[0]? = some o->¬o.void T)(OP:ns.Nodup)(hns2:∀b∈ns,N+m<=b/\b∉bs)(hv:EI (D1.J0 laid N m ns) v0=some v)(hnews:KV (D1.J0 laid N m ns) H ns news):HM laid N m s v0 news v H:=
 ⟨bs,objs,ns,hr,hnd,hobj.len,h0,hreach,by rw[hx];exact hobj.at,hroot,OP,hns2,hnews.len,hv,hnews.at⟩
theorem Told.jD{D:Nat->Prop}{Φ:H5}{v:Value}{H:AA}{s:Pk}{b0:Nat}(bs:AP){objs:Ay}(hr:Bh s objs)(hx:DO s=[])(hb0:bs[0]? = some b0)(hA:b0∈Am 4 v\/D b0)(hnd:bs.Nodup)(hreach:∀b∈bs,Ia H [b0] b)(hobj:GA bs H bs objs)(hroot:∀o T,objs[0]? = some o->¬o.void T)(next:∀H2:AA,(∀x,x∉bs->H2.get x=H.get x)->H2.get b0=some (.abs (.pack s) false)->Told D Φ v H2):Told D Φ v H:=by
 have hS:=Ez (s:=s) (H:=H) hnd;refine .shut s objs bs [b0] hr ?_ hobj.len hnd (fun b hb=>by rw[AAg]at hb;rw[hb];exact hA) hreach (by rw[hx];exact hobj.at) hroot (next _ (fun x hx=>hS.GM x hx) (hS.root b0 hb0));rintro rfl;have:=hobj.len;rw[ACk]at this;rw[List.length_eq_zero_iff.1 this]at hb0;cases hb0
end Go.AB
namespace Go.AB
open Go.Proofs
abbrev kB:EK:=[.int .u8]
abbrev kI:EK:=[.int .i64]
def dbT:Au:=[0,1,56,2,57,49,28,3,61,58,42,50,38,29,17,4,62,47,59,36,45,43,51,22,53,39,33,30,24,18,12,5,63,55,48,27,60,41,37,16,46,35,44,21,52,32,23,11,54,26,40,15,34,20,31,10,25,14,19,9,13,8,7,6]
def AG:DD:=[(0,[.bool false,.bool true,.bool false,.bool false,.bool true,.int .i64 2]),(1,dbT.map fun n=> .int .u8 n)]
abbrev X0:Ctx:=BY Tryz.prog AG []
def A5(f:FuncId):Nat:=match entry Tryz.prog f with
 | some (n,_)=>n
 | none=>0
def st(f:FuncId)(args:AL)(H:AA):BU:=Du f (CP 0 args .leaf) (A5 f) (BN Tryz.prog f []) H
abbrev int(n:Int):Value:= .int .i64 n
def Al(n:Nat):Value:= .pointer (some ⟨n,0,none⟩)
def Aq(n k:Nat):Value:= .slice (some ⟨n,0,some 0⟩) k 18446744073709551616
def hp(l:Ay):AA:=DT ⟨.leaf,20⟩ l
def eT(m:AX)(r:Nat):AJ:= .cells [Aq r m.b.length,.int .i64 m.size,.int .i64 m.HT] 0 false
end Go.AB
namespace Go.AB
theorem wrap64{x:Int}(h1: -9223372036854775808<=x)(h2:x<=9223372036854775807):IntKind.wrap .i64 x=x:=by
 show(if (true&&decide (x % 18446744073709551616>=9223372036854775808))=true then x % 18446744073709551616 - 18446744073709551616 else x % 18446744073709551616)=x;simp only[AB5,AAl];split<;>omega
theorem AU{p:Prop}[Decidable p]{A B:Prop}(h1:p->A)(h2:¬p->B):(bif decide p then A else B):=by
 by_cases h:p
 .rw[AAY h];exact h1 h
 .rw[AAb h];exact h2 h
theorem AD{b:Bool}{A B:Prop}(h:b=true)(h1:A):(bif b then A else B):=by rw[h];exact h1
theorem AK{b:Bool}{A B:Prop}(h:b=false)(h1:B):(bif b then A else B):=by rw[h];exact h1
theorem Cz{b:Bool}{A B:Prop}(h1:b=true->A)(h2:b=false->B):(bif b then A else B):=by
 cases b
 .exact h2 rfl
 .exact h1 rfl
end Go.AB
namespace Go.AB
open Go.Proofs
def rowOf(k:EK):AJ->Option (List (EK.C k))
 | .vec k' l _=>if h:k'=k then some (h ▸ l)else none
 | _=>none
theorem gK{k:EK}{o:AJ}{l:List (EK.C k)}(h:rowOf k o=some l):∃ro,o= .vec k l ro:=by
 cases o<;>first | (cases h;done) | skip
 rename_i k' l' ro;simp only[rowOf]at h;split at h
 .rename_i e;subst e;have h:l'=l:=ACJ h;subst h;exact⟨ro,rfl⟩
 .cases h
def vg(k:EK)(b:Nat)(l:List (EK.C k))(j n:Nat)(Q:Bz):Prop:=
 bif Nat.ble (j+n) l.length then(bif Nat.beq n 0 then Q (.slice (some ⟨21,0,none⟩) 0 0) [some (.vec k l true),none,some (.cells [] k.length false)]else
  (bif Bn b (0+n)then Q (.slice (some ⟨22,0,some 0⟩) (0+n) 18446744073709551616) [some (.vec k l true),some (.vec k ([]++List.take n (List.drop j l)) false),some (.vec k ([]++List.take n (List.drop j l)) false)]else False))else False
def zr(k:EK)(b:Nat)(l:List (EK.C k))(j n:Nat)(Q:Bz):Prop:=
 bif Nat.blt 0 n then vg k b l j n Q else(Q (.slice none 0 0) [some (.vec k l true),none]/\vg k b l j n Q)
def SH(k:EK)(b:Nat)(args:AL)(objs:Ay):GT:=
 match args,objs with
 | [.slice (some ⟨20,0,some j⟩) n 18446744073709551616],[o]=>match rowOf k o with
  | some l=> .ask (j+n<=l.length/\Bn b n=true) (.ret ⟨Aq 21 n,[],[.vec k (List.take n (List.drop j l)) false]⟩)
  | none=> .fail
 | [.slice none 0 0],[]=> .ret ⟨.slice none 0 0,[],[]⟩
 | _,_=> .fail
theorem ZY{H:AA}{o:AJ}:(H.alloc o).get H.next=some o:=by rw[AA.AN,AAZ rfl]
theorem Z5{k:EK}{m n z:Nat}{l:List (EK.C k)}{H:AA}(hk:k.all IM=true)(hz:20+m<=z)(hg:H.get z=some (.vec k l false)):D1 AG 20 m [] ⟨Aq (20+m) n,[],[.vec k l false]⟩ (Aq z n) H:=by
 refine⟨[z],by simp,fun b hb=>by rw[AAg]at hb;rw[hb];exact hz,rfl,?_,fun j b o hb ho=>?_,fun j o hj hm=>(by cases hm)⟩
 .have e:D1.J0 AG 20 m [z] (20+m)=some z:=by
   unfold D1.J0;rw[AAW (by omega),AAW (by omega),ABQ];rfl
  show(Jq (D1.J0 AG 20 m [z]) ⟨20+m,0,some 0⟩).map (fun a=>Value.slice (some a) n 18446744073709551616)=_;simp only[Jq,e];rfl
 .cases j with
  | zero=>cases hb;cases ho;exact⟨_,H8 k hk l false,hg⟩
  | succ j=>cases hb
theorem zj{n:Nat}(h:Nat.blt 0 n=false):n=0:=by
 rcases AB4 n with h' | h'
 .exact h'
 .rw[show Nat.blt 0 n=true from AAS h']at h;cases h
theorem Ng{k:EK}{b:Nat}(hk:k.all IM=true)(hk0:k.length≠0){f:FuncId}(he:entry Tryz.prog f=some (A5 f,BN Tryz.prog f []))(h1:Nat.ble 1 (A5 f)=true)(hv:∀l j n Q,Bu X0 Dn [] f [20,22] 21 Q 100 (st f [.slice (some ⟨20,0,some j⟩) n 18446744073709551616] (hp [.vec k l true]))=zr k b l j n Q)(hn:∀Q,Bu X0 Dn [] f [] 20 Q 100 (st f [.slice none 0 0] (hp []))=Q (.slice none 0 0) []):CH Tryz.prog AG f (Ab AG 20 [] (SH k b)):=by
 refine Ar (CQ.nil _ _) (by kernel_rfl) (n:=A5 f) he (by kernel_rfl) fun argsc objs x hx hro=>?_
 clear hro;unfold SH at hx;split at hx
 .rename_i j n o;split at hx
  .rename_i l hl;obtain⟨ro,rfl⟩:=gK hl;simp only[GT.run]at hx;split at hx
   .rename_i hp0;cases hx
    obtain⟨hjn,hbig⟩:=hp0;refine⟨VC h1,AZ.L5 ?_⟩;let P:Bz:=fun v os=>(v=Aq 22 n/\∃o0 t,os=o0::some (.vec k (List.take n (List.drop j l)) false)::t)\/(n=0/\∃o0 t,os=some o0::t/\(v= .slice none 0 0\/v= .slice (some ⟨21,0,none⟩) 0 0))
    have hP:Bu X0 Dn [] f [20,22] 21 P 100 (st f [.slice (some ⟨20,0,some j⟩) n 18446744073709551616] (hp [.vec k l true])):=by
     rw[hv];have hm:vg k b l j n P:=by
      refine AD (AAS hjn) (Cz (fun h0=> .inr ⟨AAP h0,_,_,rfl,.inr rfl⟩) fun h0=>AD (by rw[AAj];exact hbig) (.inl ⟨?_,_,_,rfl⟩));rw[AAj];rfl
     exact Cz (fun _=>hm) fun h0=>⟨.inr ⟨zj h0,_,_,rfl,.inl rfl⟩,hm⟩
    refine AZ.mono (Aa.FG (Av (By _) (by kernel_rfl) hP)) fun v H hq=>?_
    rcases hq with⟨rfl,o0,t,hq⟩ | ⟨rfl,o0,t,hq,hv2⟩
    .simp only[AAn,ABc,ABC,AAd]at hq;exact .here (Z5 (m:=1) hk (by decide) hq.2.1)
    .simp only[AAn,ABc,ABC,AAd]at hq;have h20:=hq.1;have e:List.take 0 (List.drop j l)=[]:=ACd;rw[e];have hend:(∀x o,H.get x=some o->x < H.next)->D1 AG 20 1 [] ⟨Aq 21 0,[],[.vec k [] false]⟩ (Aq H.next 0) (H.alloc (.vec k [] false)):=fun hlt=>Z5 (m:=1) hk (by have:=hlt _ _ h20;omega) ZY
     rcases hv2 with rfl | rfl
     .exact .kX k hk0 20 (.inr ⟨AAT _,by simp⟩) _ (.val .nil) fun hlt=> .here (hend hlt)
     .exact .kX k hk0 20 (.inr ⟨AAT _,by simp⟩) _ (.val (.emp 21 0)) fun hlt=> .here (hend hlt)
   .cases hx
  .cases hx
 .cases hx
  have hP:Bu X0 Dn [] f [] 20 (fun v _=>v= .slice none 0 0) 100 (st f [.slice none 0 0] (hp [])):=by rw[hn]
  refine⟨VC h1,AZ.mono (Aa.FG (Av (By _) (by kernel_rfl) hP)) fun v H hq=>?_⟩;have hq:v=_:=hq;subst hq;exact⟨[],AA3,fun b hb=>(by cases hb),rfl,rfl,fun j b o hj=>(by cases hj),fun j o hj hm=>(by cases hm)⟩
 .cases hx
theorem V0:CH Tryz.prog AG Fl (Ab AG 20 [] (SH kB 1)):=Ng (by decide) (by decide) (by kernel_rfl) (by kernel_rfl) (fun l j n Q=>by kernel_rfl) (fun Q=>by kernel_rfl)
theorem jP:CH Tryz.prog AG IJ (Ab AG 20 [] (SH kI 8)):=Ng (by decide) (by decide) (by kernel_rfl) (by kernel_rfl) (fun l j n Q=>by kernel_rfl) (fun Q=>by kernel_rfl)
abbrev Gc:=FuncId × DL × GN
def C8:List Gc->List (FuncId × DL)
 | []=>[]
 | e::r=>(e.1,e.2.1)::C8 r
def As:List Gc->Pf
 | []=>fun _=>none
 | e::r=>fun g=>bif Nat.beq g e.1 then some e.2.2 else As r g
def SR(F:DL)(p:GN):Prop:=∀(X:Ctx)(f:FuncId),X.Hp f=some F->∀args H K,p args H K->∃v H',B3 X f args .normal H=some (v,H')/\K v H'
def EX(f:FuncId)(muts:List Bool)(G:AL->Ay->GT):Gc:=(f,Ab AG 20 muts G,De AG 20 muts G)
inductive Ct:List Gc->Prop where
 | nil:Ct []
 | cons {f:FuncId} {muts:List Bool} {G:AL->Ay->GT} {l:List Gc} (h:CH Tryz.prog AG f (Ab AG 20 muts G)) (t:Ct l):Ct (EX f muts G::l)
 | other {e:Gc} {l:List Gc} (h:CH Tryz.prog AG e.1 e.2.1) (hp:SR e.2.1 e.2.2) (t:Ct l):Ct (e::l)
theorem Ct.all{l:List Gc}(h:Ct l):CQ Tryz.prog AG (C8 l):=by
 induction h with
 | nil=>exact .nil _ _
 | cons h _ ih=>exact .cons h ih
 | other h _ _ ih=>exact .cons h ih
theorem Ct.at{l:List Gc}(h:Ct l):∀{g:FuncId}{q:GN},As l g=some q->∃F,Od (C8 l) g=some F/\SR F q:=by
 have key:∀{e:Gc}{r:List Gc},SR e.2.1 e.2.2->(∀{g:FuncId}{q:GN},As r g=some q->∃F,Od (C8 r) g=some F/\SR F q)->∀{g:FuncId}{q:GN},As (e::r) g=some q->∃F,Od (C8 (e::r)) g=some F/\SR F q:=by
  intro e r hp ih g q hq;have hq:(bif Nat.beq g e.1 then some e.2.2 else As r g)=some q:=hq;show ∃F,(bif Nat.beq e.1 g then some e.2.1 else Od (C8 r) g)=some F/\SR F q
  have hc:Nat.beq e.1 g=Nat.beq g e.1:=by
   cases h1:Nat.beq e.1 g<;>cases h2:Nat.beq g e.1<;>first | rfl | (have:=AAP h2;rw[this,AAu]at h1;cases h1) | (have:=AAP h1;rw[this,AAu]at h2;cases h2)
  rw[hc];cases hb:Nat.beq g e.1
  .simp only[hb,AAR]at hq ⊢;exact ih hq
  .simp only[hb,AAO,AAN]at hq ⊢;exact⟨_,rfl,hq ▸ hp⟩
 induction h with
 | nil=>intro g q hq;cases hq
 | cons h t ih=>exact key (fun X f hX args H K h=>Gh hX h) ih
 | other h hp t ih=>exact key hp ih
theorem Ct.pf{l:List Gc}(h:Ct l):Hm (BY Tryz.prog AG (C8 l)) (As l):=fun g q hq args H K hk=>by
 obtain⟨F,h1,h2⟩:=h.at hq;exact h2 _ g h1 args H K hk
def cB:List Gc:=[EX Fl [] (SH kB 1)]
abbrev XB:Ctx:=BY Tryz.prog AG (C8 cB)
def dK(m:AX):AA:=hp [eT m 21,.vec kB m.b false]
theorem iu(m:AX)(Q:Bz):Bu X0 Dn [] FE [20,21] 21 Q 100 (st FE [Al 20] (dK m))=(
 let c:AJ:= .vec kB (AX.b m) false;let a:AJ:= .cells [(Aq 21 (AX.b m).length),(int (AX.size m)),(int (AX.HT m))] 0 false;(bif decide (AX.size m > 0)then(Q (int (Int.ofNat (AX.b m).length)) [some a,some c])else(Q (int 0) [some a,some c]))):=by kernel_rfl
theorem iD(m:AX)(Q:Bz):Bu X0 Dn [] Dy [20,21] 21 Q 100 (st Dy [Al 20] (dK m))=(
 let c:AJ:= .vec kB (AX.b m) false;let a:AJ:= .cells [(Aq 21 (AX.b m).length),(int (AX.size m)),(int (AX.HT m))] 0 false;(bif decide (AX.size m > 0)then(Q (int (AX.HT m)) [some a,some c])else(Q (int 0) [some a,some c]))):=by kernel_rfl
theorem dp(m:AX)(Q:Bz):Bu X0 Dn [] Em [20,21] 21 Q 100 (st Em [Al 20] (dK m))=(
 let c:AJ:= .vec kB (AX.b m) false;let a:AJ:= .cells [(Aq 21 (AX.b m).length),(int (AX.size m)),(int (AX.HT m))] 0 false;(bif decide (AX.size m > 0)then(Q (int (IntKind.wrap .i64 (AX.size m - Int.ofNat (AX.b m).length))) [some a,some c])else(Q (int 0) [some a,some c]))):=by kernel_rfl
theorem eF(m:AX)(Q:Bz):Bu X0 Dn [] Ep [20,21] 21 Q 100 (st Ep [Al 20] (dK m))=(
 let d:=int (AX.size m);let c:AJ:= .vec kB (AX.b m) false;let a:=Aq 21 (AX.b m).length;(bif decide (AX.size m > 0)then(Q (.tuple ⟨[]⟩) [some (.cells [a,d,(int (Int.ofNat (AX.b m).length))] 0 false),some c])else(Q (.tuple ⟨[]⟩) [some (.cells [a,d,(int (AX.HT m))] 0 false),some c]))):=by kernel_rfl
theorem RN(m:AX)(k:Int)(Q:Bz):Bu X0 Dn [] ER [20,21] 21 Q 200 (st ER [Al 20,.int .i64 k] (dK m))=(
 let h:=int (AX.size m);let g:=Int.ofNat (AX.b m).length - AX.HT m;let e:AJ:= .vec kB (AX.b m) false;let d:AJ:= .cells [(Aq 21 (AX.b m).length),h,(int (AX.HT m))] 0 false;let a:=AX.HT m+if IntKind.wrap .i64 g < k then IntKind.wrap .i64 g else k;let f:=IntKind.wrap .i64 a;let c:Value:= .slice (some ⟨21,0,(some 0)⟩) (f.toNat - 0) 18446744073709551616;(bif decide (AX.size m > 0)then(bif decide (k < 0)then(Q (int 2) [some d,some e])else(bif decide (0<=IntKind.wrap .i64 a)&&Nat.ble f.toNat (AX.b m).length&&decide (0<=0)&&Nat.ble 0 f.toNat then(bif decide (AX.size m > 0)then(Q (int 0) [some (.cells [c,h,(int (Int.ofNat (f.toNat - 0)))] 0 false),some e])else(Q (int 0) [some (.cells [c,h,(int (AX.HT m))] 0 false),some e]))else False))else(Q (int 1) [some d,some e]))):=by kernel_rfl
theorem So(m:AX)(o k:Int)(Q:Bz):Bu XB (As cB) [] Br [20,21] 21 Q 200 (st Br [Al 20,.int .i64 o,.int .i64 k] (dK m))=(
 let f:AJ:= .vec kB (AX.b m) false;let d:AJ:= .cells [(Aq 21 (AX.b m).length),(int (AX.size m)),(int (AX.HT m))] 0 false;let c:=IntKind.wrap .i64 (o+k);let e:=c.toNat - o.toNat;let a:Prop:=Q (.tuple ⟨[(.slice none 0 0),(int 3)]⟩) [some d,some f];(bif decide (AX.size m > 0)then(bif decide (o < 0)then a else(bif decide (k < 0)then a else(bif decide (k > Int.ofNat (AX.b m).length)then a else(bif decide (o > IntKind.wrap .i64 (Int.ofNat (AX.b m).length - k))then a else(bif decide (0<=IntKind.wrap .i64 (o+k))&&Nat.ble c.toNat (AX.b m).length&&Nat.blt c.toNat AT&&decide (0<=IntKind.wrap .i64 (o+k))&&Nat.ble c.toNat c.toNat&&decide (0<=o)&&Nat.ble o.toNat c.toNat then(0+o.toNat+e<=(AX.b m).length/\Bn 1 e=true)/\(Q (.tuple ⟨[(Aq 22 e),(int 0)]⟩) [some d,some f,some (.vec ([SK.int IntKind.u8]) (List.take e (List.drop (0+o.toNat) (AX.b m))) false)])else False)))))else(Q (.tuple ⟨[(.slice none 0 0),(int 1)]⟩) [some d,some f]))):=by kernel_rfl
theorem XH(m:AX)(l:Au)(n:Nat)(Q:Bz):Bu X0 Dn [] BW [20,22,23] 22 Q 200 (st BW [Al 20,Aq 21 n] (hp [eT m 22,.vec kB l true,.vec kB m.b false]))=(
 let e:=int (AX.size m);let d:AJ:= .vec kB (AX.b m) false;let c:=(AX.b m).length+n;let a:AJ:= .cells [(Aq 22 (AX.b m).length),e,(int (AX.HT m))] 0 false;(bif decide (AX.size m > 0)then(bif decide (Int.ofNat n > IntKind.wrap .i64 (AX.size m - Int.ofNat (AX.b m).length))then(Q (int 4) [some a,some d,none])else(bif Nat.ble (0+n) l.length&&Nat.ble (0+(AX.b m).length) (AX.b m).length&&Bn 1 c then(Q (int 0) [some (.cells [(Aq 23 c),e,(int (AX.HT m))] 0 false),none,some (.vec ([SK.int IntKind.u8]) (List.take (AX.b m).length (List.drop 0 (AX.b m))++List.take n (List.drop 0 l)) false)])else False))else(Q (int 1) [some a,some d,none]))):=by kernel_rfl
theorem Wz(n:Int)(Q:Bz):Bu X0 Dn [] Dk [] 20 Q 200 (st Dk [.int .i64 n] (hp []))=(
 let a:Prop:=Q (.tuple ⟨[(.pointer none),(int 2)]⟩) [];(bif decide (n < 1)then a else(bif decide (n > 8192)then a else(Q (.tuple ⟨[(Al 20),(int 0)]⟩) [some (.cells [(.slice none 0 0),(int n),(int 0)] 0 false)])))):=by kernel_rfl
inductive TK(b0:Nat)(H:AA)(l:Au):Value->Prop where
 | row (k:Nat) (l':Au) (hk:k≠b0) (hg:H.get k=some (.vec kB l' false)) (hl:l'.take l.length=l):TK b0 H l (Aq k l.length)
 | nil (h:l=[]):TK b0 H l (.slice none 0 0)
 | emp (b o:Nat) (h:l=[]):TK b0 H l (.slice (some ⟨b,o,none⟩) 0 0)
theorem TL{H:AA}{o:AJ}{x:Nat}(h:x≠H.next):(H.alloc o).get x=H.get x:=by rw[AA.AN,AAW h]
theorem Ky{H:AA}{o:AJ}:(H.alloc o).get H.next=some o:=by rw[AA.AN,AAZ rfl]
theorem Hh{H:AA}{o:AJ}{b x:Nat}(h:x≠b):(H.put b o).get x=H.get x:=by rw[AA.AQ,AAW h]
theorem K4{H:AA}{o:AJ}{b:Nat}:(H.put b o).get b=some o:=by rw[AA.AQ,AAZ rfl]
theorem UL(m:AX)(objs:Ay)(hr:Bh (.EW m) objs):FI m/\EU (DT ⟨.leaf,20⟩ [.abs (.pack (.EW m)) false]) 20 false objs (dK m) []:=by
 cases hr with
 | EW _ h=>
  refine⟨h,?_⟩;have:=F5 (N:=20) (s:= .EW m) (os:=[]) (o:= .cells [.slice (some ⟨1,0,some 0⟩) m.b.length cU,.int .i64 m.size,.int .i64 m.HT] 0 false) (o1:=eT m 21) (ps:=[.vec kB m.b false]) (ps1:=[.vec kB m.b false]) rfl rfl (fun i p hp=>by
   cases i with
   | zero=>cases hp;exact⟨_,rfl,rfl⟩
   | succ i=>cases i<;>cases hp)
  have e:Dv ((DT ⟨.leaf,20⟩ [.abs (.pack (.EW m)) false]).put 20 (eT m 21)) [.vec kB m.b false]=dK m:=by kernel_rfl
  rw[e]at this;exact this
theorem lW{H:AA}{k n:Nat}{a b:Value}(h:H.get 20=some (.cells [Aq k n,a,b] 0 false)):∀x∈[20,k],Ia H [20] x:=by
 intro x hx;have h0:Ia H [20] 20:= .here (by simp);simp only[AAw,AA6,ABr]at hx;rcases hx with rfl | rfl
 .exact h0
 .exact .next h0 h (by simp[Ig,Am,Aq])
theorem P5{m':AX}{H:AA}{j k:Nat}{v:Value}(hok:FI m')(hk:k≠20)(h20:H.get 20=some (.cells [Aq k m'.b.length,.int .i64 m'.size,.int .i64 m'.HT] 0 false))(hr:H.get k=some (.vec kB m'.b false))(hv:C4 6 v=true):
 HM AG 20 j (.EW m') v [] v H:=by
 refine⟨[20,k],_,[],.EW m' hok,by simp[Ne.symm hk],rfl,rfl,lW h20,?_,?_,AA3,fun b hb=>(by cases hb),rfl,H7 6 v hv,fun j b o hj=>(by cases hj)⟩
 .intro i b o hb ho;cases i with
  | zero=>cases hb;cases ho;exact⟨_,h20,rfl,rfl,rfl⟩
  | succ i=>cases i with
   | zero=>cases hb;cases ho;exact⟨_,hr,rfl,rfl,rfl⟩
   | succ i=>cases hb
 .intro o T ho;cases ho;exact id
theorem Tw{m':AX}{H:AA}{j:Nat}{D:Nat->Prop}{v x:Value}(hD:D 20)(hok:FI m')(h20:H.get 20=some (.cells [x,.int .i64 m'.size,.int .i64 m'.HT] 0 false))(hx:TK 20 H m'.b x)(hv:C4 6 v=true):
 Told D (HM AG 20 j (.EW m') v []) v H:=by
 cases hx with
 | row k l' hk hg hl=>
  refine .TQ k kB l' false m'.b.length hg (.here (P5 hok hk ?_ ?_ hv))
  .rw[Hh (ABB hk)];exact h20
  .rw[K4,hl]
 | nil h=>
  refine .Vw kB (by decide) 20 (.inr hD) v (.val (.same v)) 20 _ _ 0 false h20 (.cons .nil (Vf.refl _ _)) fun hlt=> .here (P5 (k:=H.next) hok ?_ ?_ ?_ hv)
  .have:=hlt _ _ h20;omega
  .rw[K4,h];rfl
  .rw[Hh (by have:=hlt _ _ h20;omega),Ky,h]
 | emp b o h=>
  refine .Vw kB (by decide) 20 (.inr hD) v (.val (.same v)) 20 _ _ 0 false h20 (.cons (.emp b o) (Vf.refl _ _)) fun hlt=> .here (P5 (k:=H.next) hok ?_ ?_ ?_ hv)
  .have:=hlt _ _ h20;omega
  .rw[K4,h];rfl
  .rw[Hh (by have:=hlt _ _ h20;omega),Ky,h]
theorem okB:Ct cB:= .cons V0 .nil
inductive WJ(k:Nat)(o1:Option AJ)(l:Au):Value->Prop where
 | row (l':Au) (ho:o1=some (.vec kB l' false)) (hl:l'.take l.length=l):WJ k o1 l (Aq k l.length)
 | nil (h:l=[]):WJ k o1 l (.slice none 0 0)
 | emp (b o:Nat) (h:l=[]):WJ k o1 l (.slice (some ⟨b,o,none⟩) 0 0)
theorem WJ.at{b0 k:Nat}{H:AA}{l:Au}{y:Value}(hk:k≠b0)(h:WJ k (H.get k) l y):TK b0 H l y:=by
 cases h with
 | row l' ho hl=>exact .row k l' hk ho hl
 | nil h=>exact .nil h
 | emp b o h=>exact .emp b o h
def rb(v0:Value)(m':AX)(k:Nat)(v:Value)(os:J9):Prop:=
 v=v0/\∃y o1 t,os=some (.cells [y,.int .i64 m'.size,.int .i64 m'.HT] 0 false)::o1::t/\WJ k o1 m'.b y
theorem rb.at{v0 v:Value}{m':AX}{k:Nat}{H:AA}{r:AP}(hk:k≠20)(h:rb v0 m' k v ((20::k::r).map H.get)):v=v0/\∃y,H.get 20=some (.cells [y,.int .i64 m'.size,.int .i64 m'.HT] 0 false)/\TK 20 H m'.b y:=by
 obtain⟨h1,y,o1,t,h2,h3⟩:=h;simp only[AAn,AAd]at h2;obtain⟨h4,rfl,_⟩:=h2;exact⟨h1,y,h4,h3.at hk⟩
theorem Xt{fs:List (FuncId × DL)}(hfs:CQ Tryz.prog AG fs){f:FuncId}(he:entry Tryz.prog f=some (A5 f,BN Tryz.prog f [])){q:Gz}(hq:∀s rest os,(q s rest os).Ut fun x=>∃m m',s= .EW m/\os=[]/\Nat.ble (rest.length+1) (A5 f)=true/\x.nx= .EW m'/\x.news=[]/\C4 6 x.v=true/\(FI m->FI m'/\∃k,k≠20/\∃n,Bu (BY Tryz.prog AG fs) Dn [] f [20,k] 21 (rb x.v m' k) n (st f (Al 20::rest) (dK m)))):
 CH Tryz.prog AG f (Ab AG 20 [true] (Cl 20 q)):=by
 refine Dq hfs (by kernel_rfl) (by kernel_rfl) he (fun _=>rfl) fun s rest os=>?_
 refine PT.Ut.mono (hq s rest os) fun x ⟨m,m',e1,e2,e3,e4,e5,e6,e7⟩=>?_
 subst e1 e2;refine⟨VC e3,fun objs hr=>?_⟩;obtain⟨h1,h2⟩:=UL m objs hr;obtain⟨h3,k,hk,n,h4⟩:=e7 h1;refine⟨_,h2,AZ.mono (Aa.FG (Av (By _) (by kernel_rfl) h4)) fun v H hQ=>?_⟩;obtain⟨rfl,y,g1,g2⟩:=hQ.at hk;rw[e4,e5];exact Tw ⟨AAT _,by decide⟩ h3 g1 g2 e6
def Qj(g:AX->Int):Gz:=fun s rest os=>match s,rest,os with
 | .EW m,[],[]=> .ret ⟨int (g m),.EW m,[]⟩
 | _,_,_=> .fail
theorem qu(m:AX):WJ 21 (some (.vec kB m.b false)) m.b (Aq 21 m.b.length):= .row m.b rfl ABh
theorem Kb(m:AX)(v:Value)(t:J9):rb v m 21 v (some (eT m 21)::some (.vec kB m.b false)::t):=⟨rfl,_,_,_,rfl,qu m⟩
theorem N4{f:FuncId}(he:entry Tryz.prog f=some (A5 f,BN Tryz.prog f []))(g:AX->Int)(h1:Nat.ble 1 (A5 f)=true)(h:∀m,FI m->Bu X0 Dn [] f [20,21] 21 (rb (int (g m)) m 21) 100 (st f [Al 20] (dK m))):CH Tryz.prog AG f (Ab AG 20 [true] (Cl 20 (Qj g))):=by
 refine Xt (CQ.nil _ _) he fun s rest os=>?_
 unfold Qj;split
 .rename_i m;exact⟨m,m,rfl,rfl,h1,rfl,rfl,rfl,fun hm=>⟨hm,21,by decide,100,h m hm⟩⟩
 .trivial
def jt:Gz:=Qj fun m=>m.b.length
def i7:Gz:=Qj fun m=>m.HT
def aF:Gz:=Qj fun m=>m.size - m.b.length
theorem eQ:CH Tryz.prog AG FE (Ab AG 20 [true] (Cl 20 jt)):=
 N4 (by kernel_rfl) _ (by kernel_rfl) fun m hm=>by rw[iu];exact AU (fun _=>Kb m _ _) (fun h=>absurd hm.pos h)
theorem dZ:CH Tryz.prog AG Dy (Ab AG 20 [true] (Cl 20 i7)):=
 N4 (by kernel_rfl) _ (by kernel_rfl) fun m hm=>by rw[iD];exact AU (fun _=>Kb m _ _) (fun h=>absurd hm.pos h)
theorem Xl:CH Tryz.prog AG Em (Ab AG 20 [true] (Cl 20 aF)):=
 N4 (by kernel_rfl) _ (by kernel_rfl) fun m hm=>by
  rw[dp];refine AU (fun _=>?_) (fun h=>absurd hm.pos h);have:=hm.len;have:=hm.oR;rw[wrap64 (by show(-9223372036854775808:Int)<=m.size - (m.b.length:Int);omega) (by show m.size - (m.b.length:Int)<=_;omega)];exact Kb m _ _
def unit:Value:= .tuple ⟨[]⟩
def aw(g:AX->AX):Gz:=fun s rest os=>match s,rest,os with
 | .EW m,[],[]=> .ret ⟨unit,.EW (g m),[]⟩
 | _,_,_=> .fail
theorem j8{f:FuncId}(he:entry Tryz.prog f=some (A5 f,BN Tryz.prog f []))(g:AX->AX)(h1:Nat.ble 1 (A5 f)=true)(hg:∀m,FI m->FI (g m))(h:∀m,FI m->Bu X0 Dn [] f [20,21] 21 (rb unit (g m) 21) 100 (st f [Al 20] (dK m))):CH Tryz.prog AG f (Ab AG 20 [true] (Cl 20 (aw g))):=by
 refine Xt (CQ.nil _ _) he fun s rest os=>?_
 unfold aw;split
 .rename_i m;exact⟨m,g m,rfl,rfl,h1,rfl,rfl,rfl,fun hm=>⟨hg m hm,21,by decide,100,h m hm⟩⟩
 .trivial
def DP(m:AX):AX:=⟨m.size,m.b.length,m.b⟩
theorem FI.sync{m:AX}(h:FI m):FI (DP m):=⟨h.pos,h.oR,h.len,by show(0:Int)<=(m.b.length:Int);omega,ACL _⟩
theorem Zi:CH Tryz.prog AG Ep (Ab AG 20 [true] (Cl 20 (aw DP))):=
 j8 (by kernel_rfl) _ (by kernel_rfl) (fun _ h=>h.sync) fun m hm=>by rw[eF];exact AU (fun _=>⟨rfl,_,_,_,rfl,qu m⟩) (fun h=>absurd hm.pos h)
def FJ(m:AX)(k:Int):Int:=m.HT+(if (m.b.length:Int) - m.HT < k then(m.b.length:Int) - m.HT else k)
def M5(m:AX)(k:Int):AX:=⟨m.size,FJ m k,m.b.take (FJ m k).toNat⟩
def RU:Gz:=fun s rest os=>match s,rest,os with
 | .EW m,[.int .i64 k],[]=> .test (decide (k < 0)) (.ret ⟨int 2,.EW m,[]⟩) (.ret ⟨int 0,.EW (M5 m k),[]⟩)
 | _,_,_=> .fail
theorem XG{m:AX}(h:FI m){k:Int}(hk:0<=k):0<=FJ m k/\FJ m k<=m.b.length:=by
 have:=h.d0;have:=h.d1;unfold FJ;split<;>omega
theorem FI.wY{m:AX}(h:FI m){k:Int}(hk:0<=k):FI (M5 m k)/\((m.b.take (FJ m k).toNat).length:Int)=FJ m k:=by
 obtain⟨h1,h2⟩:=XG h hk;have h3:((m.b.take (FJ m k).toNat).length:Int)=FJ m k:=by rw[AAh];omega
 refine⟨⟨h.pos,h.oR,?_,h1,?_⟩,h3⟩
 .show((m.b.take (FJ m k).toNat).length:Int)<=m.size;have:=h.len;omega
 .show FJ m k<=((m.b.take (FJ m k).toNat).length:Int);omega
theorem XX:CH Tryz.prog AG ER (Ab AG 20 [true] (Cl 20 RU)):=by
 refine Xt (CQ.nil _ _) (by kernel_rfl) fun s rest os=>?_
 unfold RU;split
 .rename_i m k;refine⟨fun hk=>⟨m,m,rfl,rfl,by kernel_rfl,rfl,rfl,rfl,fun hm=>⟨hm,21,by decide,200,?_⟩⟩,fun hk=>⟨m,M5 m k,rfl,rfl,by kernel_rfl,rfl,rfl,rfl,fun hm=>?_⟩⟩
  .rw[RN];exact AD (AAY hm.pos) (AD hk (Kb m _ _))
  .have hk:0<=k:=by simpa using hk
   obtain⟨h1,h2⟩:=hm.wY hk;obtain⟨h3,h4⟩:=XG hm hk;refine⟨h1,21,by decide,200,?_⟩;rw[RN];(conv=>zeta)
   have:=hm.len;have:=hm.oR;have:=hm.d0;have:=hm.d1;have e1:IntKind.wrap .i64 (Int.ofNat m.b.length - m.HT)=(m.b.length:Int) - m.HT:=wrap64 (by show(-9223372036854775808:Int)<=(m.b.length:Int) - m.HT;omega) (by show(m.b.length:Int) - m.HT<=_;omega);have e2:IntKind.wrap .i64 (m.HT+if (m.b.length:Int) - m.HT < k then(m.b.length:Int) - m.HT else k)=FJ m k:=by
    show IntKind.wrap .i64 (FJ m k)=_;exact wrap64 (by omega) (by omega)
   rw[e1,e2];have e3:(FJ m k).toNat - 0=(m.b.take (FJ m k).toNat).length:=by omega
   refine AD (AAY hm.pos) (AU (fun h=>absurd h (by omega)) fun _=>AD ?_ (AD (AAY hm.pos) ⟨rfl,Aq 21 (m.b.take (FJ m k).toNat).length,some (.vec kB m.b false),[],?_,.row m.b rfl ?_⟩))
   .simp only[AAQ,AAl];exact⟨⟨⟨h3,AAS (by omega)⟩,by decide⟩,AAS (AA4 _)⟩
   .show [some (AJ.cells [Aq 21 ((FJ m k).toNat - 0),int m.size,int (((FJ m k).toNat - 0:Nat):Int)] 0 false),some (.vec kB m.b false)]=[some (AJ.cells [Aq 21 (m.b.take (FJ m k).toNat).length,int m.size,int (FJ m k)] 0 false),some (.vec kB m.b false)];rw[e3,h2]
   .show m.b.take (m.b.take (FJ m k).toNat).length=m.b.take (FJ m k).toNat
    rw[<-e3,ADF]
 .trivial
theorem oS{m':AX}{H:AA}{k z n:Nat}{l:Au}{e:Int}(hok:FI m')(hk:k≠20)(hz:21<=z)(hzk:z≠k)(h20:H.get 20=some (.cells [Aq k m'.b.length,int m'.size,int m'.HT] 0 false))(hr:H.get k=some (.vec kB m'.b false))(hg:H.get z=some (.vec kB l false)):
 HM AG 20 1 (.EW m') (.tuple ⟨[Aq 21 n,int e]⟩) [.vec kB l false] (.tuple ⟨[Aq z n,int e]⟩) H:=by
 obtain⟨bs,objs,ns,h1,h2,h3,h4,h5,h6,h7,_⟩:=(P5 (j:=1) (v:=unit) hok hk h20 hr rfl).e;refine⟨[20,k],_,[z],.EW m' hok,by simp[Ne.symm hk],rfl,rfl,lW h20,?_,?_,by simp,fun b hb=>?_,rfl,rfl,fun j b o hb ho=>?_⟩
 .intro i b o hb ho;cases i with
  | zero=>cases hb;cases ho;exact⟨_,h20,rfl,rfl,rfl⟩
  | succ i=>cases i with
   | zero=>cases hb;cases ho;exact⟨_,hr,rfl,rfl,rfl⟩
   | succ i=>cases hb
 .intro o T ho;cases ho;exact id
 .rw[AAg]at hb;subst hb;exact⟨hz,by simp;exact⟨by omega,hzk⟩⟩
 .cases j with
  | zero=>cases hb;cases ho;exact⟨_,rfl,hg⟩
  | succ j=>cases hb
def On(m:AX)(o k:Int):Bool:=decide (o < 0)||decide (k < 0)||decide (k > m.b.length)||decide (o > m.b.length - k)
def Xa(m:AX)(o k:Int):Au:=(m.b.drop o.toNat).take k.toNat
def UG:Gz:=fun s rest os=>match s,rest,os with
 | .EW m,[.int .i64 o,.int .i64 k],[]=> .test (On m o k) (.ret ⟨.tuple ⟨[.slice none 0 0,int 3]⟩,.EW m,[]⟩) (.ret ⟨.tuple ⟨[Aq 21 (Xa m o k).length,int 0]⟩,.EW m,[.vec kB (Xa m o k) false]⟩)
 | _,_,_=> .fail
theorem Rf{a:Int}(h1: -100000<=a)(h2:a<=100000):IntKind.wrap .i64 a=a:=wrap64 (by omega) (by omega)
theorem KN{b n:Nat}(hb:b<=64)(hn:n<=1000000):Bn b n=true:=by
 unfold Bn;simp only[AAQ];refine⟨AAS ?_,AAS (by omega)⟩;exact ABs (Nat.mul_le_mul (show 2 * n+192<=2000192 by omega) hb) (by decide)
theorem xA{m:AX}(hm:FI m){o k:Int}(hb:On m o k=false):Bu XB (As cB) [] Br [20,21] 21 (fun v os=>v= .tuple ⟨[Aq 22 (Xa m o k).length,int 0]⟩/\os=[some (eT m 21),some (.vec kB m.b false),some (.vec kB (Xa m o k) false)]) 200 (st Br [Al 20,.int .i64 o,.int .i64 k] (dK m)):=by
 unfold On at hb;simp only[ABk,ABE]at hb;obtain⟨⟨⟨b1,b2⟩,b3⟩,b4⟩:=hb;have:=hm.len;have:=hm.oR;have hl:(Xa m o k).length=k.toNat:=by unfold Xa;rw[AAh,AAo];omega
 have e1:IntKind.wrap .i64 (Int.ofNat m.b.length - k)=(m.b.length:Int) - k:=Rf (by show(_:Int)<=(m.b.length:Int) - k;omega) (by show(m.b.length:Int) - k<=_;omega);have e2:IntKind.wrap .i64 (o+k)=o+k:=Rf (by omega) (by omega);have e3:(o+k).toNat - o.toNat=k.toNat:=by omega
 rw[So];(conv=>zeta);rw[e1,e2,e3,hl,AAj]
 refine AD (AAY hm.pos) (AU (fun h=>absurd h b1) fun _=>AU (fun h=>absurd h b2) fun _=>AU (fun h=>absurd h b3) fun _=>AU (fun h=>absurd h b4) fun _=>AD ?_ ⟨⟨by omega,KN (by decide) (by omega)⟩,rfl,rfl⟩);simp only[AAQ,AAl];refine⟨⟨⟨⟨⟨⟨by omega,AAS (by omega)⟩,AAS ?_⟩,by omega⟩,AAS (AAT _)⟩,by omega⟩,AAS (by omega)⟩;rw[EA];omega
theorem ZQ:CH Tryz.prog AG Br (Ab AG 20 [true] (Cl 20 UG)):=by
 refine Dq okB.all (by kernel_rfl) (by kernel_rfl) (n:=A5 Br) (by kernel_rfl) (fun _=>rfl) fun s rest os=>?_
 unfold UG;split
 .rename_i m o k;refine⟨fun hb=>⟨VC (by kernel_rfl),fun objs hr=>?_⟩,fun hb=>⟨VC (by kernel_rfl),fun objs hr=>?_⟩⟩
  .obtain⟨h1,h2⟩:=UL m objs hr;have hv:Bu XB (As cB) [] Br [20,21] 21 (rb (.tuple ⟨[.slice none 0 0,int 3]⟩) m 21) 200 (st Br [Al 20,.int .i64 o,.int .i64 k] (dK m)):=by
    have:=h1.len;have:=h1.oR;unfold On at hb;rw[So];refine AD (AAY h1.pos) (AU (fun h=>Kb m _ _) fun n1=>AU (fun h=>Kb m _ _) fun n2=>AU (fun h=>Kb m _ _) fun n3=>AU (fun h=>Kb m _ _) fun n4=>?_);exfalso;have n3:¬k > (m.b.length:Int):=n3;have e1:IntKind.wrap .i64 (Int.ofNat m.b.length - k)=(m.b.length:Int) - k:=Rf (by show(_:Int)<=(m.b.length:Int) - k;omega) (by show(m.b.length:Int) - k<=_;omega);rw[e1]at n4;simp[n1,n2,n3,n4]at hb
   refine⟨_,h2,AZ.mono (Aa.FG (Av okB.pf (by kernel_rfl) hv)) fun v H hQ=>?_⟩;obtain⟨rfl,y,g1,g2⟩:=hQ.at (by decide);exact Tw ⟨AAT _,by decide⟩ h1 g1 g2 rfl
  .obtain⟨h1,h2⟩:=UL m objs hr;refine⟨_,h2,AZ.mono (Aa.FG (Av okB.pf (by kernel_rfl) (xA h1 hb))) fun v H hQ=>?_⟩;obtain⟨rfl,ho⟩:=hQ;have ho:[H.get 20,H.get 21,H.get 22]=_:=ho;simp only[AAd,ABF]at ho;exact .here (oS (k:=21) h1 (by decide) (by decide) (by decide) ho.1 ho.2.1 ho.2.2)
 .trivial
theorem Vj(m:AX)(l:Au)(ro:Bool)(objs:Ay)(hr:Bh (.EW m) objs):FI m/\EU (DT ⟨.leaf,20⟩ (.abs (.pack (.EW m)) false::Eg [true] 1 [.vec kB l ro])) 20 false objs (hp [eT m 22,.vec kB l true,.vec kB m.b false]) []:=by
 cases hr with
 | EW _ h=>
  refine⟨h,?_⟩;have:=F5 (N:=20) (s:= .EW m) (os:=[.vec kB l true]) (o:= .cells [.slice (some ⟨1,0,some 0⟩) m.b.length cU,.int .i64 m.size,.int .i64 m.HT] 0 false) (o1:=eT m 22) (ps:=[.vec kB m.b false]) (ps1:=[.vec kB m.b false]) rfl rfl (fun i p hp=>by
   cases i with
   | zero=>cases hp;exact⟨_,rfl,rfl⟩
   | succ i=>cases i<;>cases hp)
  have e:Dv ((DT ⟨.leaf,20⟩ [.abs (.pack (.EW m)) false,.vec kB l true]).put 20 (eT m 22)) [.vec kB m.b false]=hp [eT m 22,.vec kB l true,.vec kB m.b false]:=by kernel_rfl
  rw[e]at this;exact this
def Ea(m:AX)(l:Au):AX:=⟨m.size,m.HT,m.b++l⟩
def Xf:Gz:=fun s rest os=>match s,rest,os with
 | .EW m,[.slice (some ⟨21,0,some 0⟩) n 18446744073709551616],[.vec [.int .u8] l _]=> .ask (n<=l.length) (.test (decide ((n:Int) > m.size - m.b.length)) (.ret ⟨int 4,.EW m,[]⟩) (.ret ⟨int 0,.EW (Ea m (l.take n)),[]⟩))
 | _,_,_=> .fail
theorem bW:CH Tryz.prog AG BW (Ab AG 20 [true] (Cl 20 Xf)):=by
 refine Dq (CQ.nil _ _) (by kernel_rfl) (by kernel_rfl) (n:=A5 BW) (by kernel_rfl) (fun _=>rfl) fun s rest os=>?_
 unfold Xf;split
 .rename_i m n l ro;intro hn;have hw:FI m->IntKind.wrap .i64 (m.size - Int.ofNat m.b.length)=m.size - (m.b.length:Int):=fun h=>by
   have:=h.len;have:=h.oR;exact Rf (by show(_:Int)<=m.size - (m.b.length:Int);omega) (by show m.size - (m.b.length:Int)<=_;omega)
  refine⟨fun hb=>⟨VC (by kernel_rfl),fun objs hr=>?_⟩,fun hb=>⟨VC (by kernel_rfl),fun objs hr=>?_⟩⟩
  .obtain⟨h1,h2⟩:=Vj m l ro objs hr;have hv:Bu X0 Dn [] BW [20,22,23] 22 (rb (int 4) m 22) 200 (st BW [Al 20,Aq 21 n] (hp [eT m 22,.vec kB l true,.vec kB m.b false])):=by
    rw[XH];(conv=>zeta);rw[hw h1]
    exact AD (AAY h1.pos) (AD hb ⟨rfl,_,_,_,rfl,.row m.b rfl ABh⟩)
   refine⟨_,h2,AZ.mono (Aa.FG (Av (By _) (by kernel_rfl) hv)) fun v H hQ=>?_⟩;obtain⟨rfl,y,g1,g2⟩:=hQ.at (by decide);exact Tw ⟨AAT _,by simp⟩ h1 g1 g2 rfl
  .obtain⟨h1,h2⟩:=Vj m l ro objs hr;have hb:¬(n:Int) > m.size - m.b.length:=by simpa using hb
   have:=h1.len;have:=h1.oR;have hlen:(m.b++l.take n).length=m.b.length+n:=by rw[AAf,AAh];omega
   have hv:Bu X0 Dn [] BW [20,22,23] 22 (fun v os=>v=int 0/\∃o1 t,os=some (.cells [Aq 23 (Ea m (l.take n)).b.length,int m.size,int m.HT] 0 false)::o1::some (.vec kB (Ea m (l.take n)).b false)::t) 200 (st BW [Al 20,Aq 21 n] (hp [eT m 22,.vec kB l true,.vec kB m.b false])):=by
    rw[XH];(conv=>zeta);rw[hw h1]
    refine AD (AAY h1.pos) (AU (fun h=>absurd h hb) fun _=>AD ?_ ⟨rfl,none,[],?_⟩)
    .simp only[AAQ];refine⟨⟨AAS (by omega),AAS (by omega)⟩,?_⟩;unfold Bn;simp only[AAQ];exact⟨AAS (by omega),AAS (by omega)⟩
    .show _=[some (AJ.cells [Aq 23 (m.b++l.take n).length,int m.size,int m.HT] 0 false),none,some (.vec kB (m.b++l.take n) false)];rw[hlen,AA5,ABh,AA5]<;>rfl
   refine⟨_,h2,AZ.mono (Aa.FG (Av (By _) (by kernel_rfl) hv)) fun v H hQ=>?_⟩;obtain⟨rfl,o1,t,hQ⟩:=hQ;simp only[AAn,ABc,ABC,AAd]at hQ;obtain⟨g1,_,g2,_⟩:=hQ;have hok:FI (Ea m (l.take n)):=by
    refine⟨h1.pos,h1.oR,?_,h1.d0,?_⟩
    .show((m.b++l.take n).length:Int)<=m.size;rw[hlen];omega
    .show m.HT<=((m.b++l.take n).length:Int);rw[hlen];have:=h1.d1;omega
   exact .here (P5 hok (k:=23) (by decide) g1 g2 rfl)
 .trivial
theorem pP{m':AX}{b0 k:Nat}{H:AA}(h0:H.get b0=some (.cells [Aq k m'.b.length,int m'.size,int m'.HT] 0 false))(hr:H.get k=some (.vec kB m'.b false)):
 ∀(i b:Nat)(o:AJ),[b0,k][i]? = some b->[AJ.cells [.slice (some ⟨1,0,some 0⟩) m'.b.length cU,.int .i64 m'.size,.int .i64 m'.HT] 0 false,.vec [.int .u8] m'.b false][i]? = some o->∃o1,H.get b=some o1/\o1.ro=false/\o1.Kl=true/\BF (R7 [b0,k] []) o=some o1:=by
 intro i b o hb ho;cases i with
 | zero=>cases hb;cases ho;exact⟨_,h0,rfl,rfl,rfl⟩
 | succ i=>cases i with
  | zero=>cases hb;cases ho;exact⟨_,hr,rfl,rfl,rfl⟩
  | succ i=>cases hb
theorem nJ{Φ:H5}{D:Nat->Prop}{v:Value}{H:AA}{b0 k:Nat}{m':AX}{y:Value}(hok:FI m')(hk:k≠b0)(h0:H.get b0=some (.cells [y,int m'.size,int m'.HT] 0 false))(hx:WJ k (H.get k) m'.b y)(hA:b0∈Am 4 v\/D b0)(next:∀H2:AA,(∀x o,x≠b0->x≠k->H.get x=some o->H2.get x=some o)->H2.get b0=some (.abs (.pack (.EW m')) false)->Told D Φ v H2):Told D Φ v H:=by
 have go:∀(H1:AA)(k1:Nat),k1≠b0->H1.get b0=some (.cells [Aq k1 m'.b.length,int m'.size,int m'.HT] 0 false)->H1.get k1=some (.vec kB m'.b false)->(∀x o,x≠b0->x≠k->H.get x=some o->x≠k1/\H1.get x=some o)->Told D Φ v H1:=by
  intro H1 k1 hk1 g1 g2 g3;have hnd:[b0,k1].Nodup:=by simp[Ne.symm hk1]
  have hS:=Ez (s:= .EW m') (H:=H1) hnd;refine .shut (.EW m') _ [b0,k1] [b0] (.EW m' hok) (by simp) rfl hnd (fun b hb=>by rw[AAg]at hb;rw[hb];exact hA) (fun x hx=>?_) (pP g1 g2) (fun o T ho=>by cases ho;exact id) (next _ (fun x o hx hxk ho=>?_) ?_)
  .simp only[AAw,AA6,ABr]at hx;rcases hx with rfl | rfl
   .exact .here (by simp)
   .exact .next (.here (by simp)) g1 (by simp[Ig,Am,Aq])
  .obtain⟨e1,e2⟩:=g3 x o hx hxk ho;rw[hS.GM x (by simp[hx,e1])];exact e2
  .exact hS.root b0 rfl
 cases hx with
 | row l' ho hl=>
  refine .TQ k kB l' false m'.b.length ho (go _ k hk ?_ ?_ fun x o hx hxk hg=>⟨hxk,?_⟩)
  .rw[Hh (ABB hk)];exact h0
  .rw[K4,hl]
  .rw[Hh hxk];exact hg
 | nil h=>
  refine .Vw kB (by decide) b0 hA v (.val (.same v)) b0 _ _ 0 false h0 (.cons .nil (Vf.refl _ _)) fun hlt=>go _ H.next ?_ ?_ ?_ fun x o hx hxk hg=>⟨AB3 (hlt _ _ hg),?_⟩
  .exact ABB (AB3 (hlt _ _ h0))
  .rw[K4,h];rfl
  .rw[Hh (ABB (AB3 (hlt _ _ h0))),Ky,h]
  .rw[Hh hx,TL (AB3 (hlt _ _ hg))];exact hg
 | emp b o h=>
  refine .Vw kB (by decide) b0 hA v (.val (.same v)) b0 _ _ 0 false h0 (.cons (.emp b o) (Vf.refl _ _)) fun hlt=>go _ H.next ?_ ?_ ?_ fun x o hx hxk hg=>⟨AB3 (hlt _ _ hg),?_⟩
  .exact ABB (AB3 (hlt _ _ h0))
  .rw[K4,h];rfl
  .rw[Hh (ABB (AB3 (hlt _ _ h0))),Ky,h]
  .rw[Hh hx,TL (AB3 (hlt _ _ hg))];exact hg
def yq:Gz:=fun s rest os=>match s,rest,os with
 | .EW m,[],[]=> .ret ⟨Al 21,.EW m,[.abs (.pack (.EW m)) false]⟩
 | _,_,_=> .fail
def N3(args:AL)(objs:Ay):GT:=
 match args,objs with
 | [.int .i64 n],[]=> .test (decide (n < 1)||decide (n > 8192)) (.ret ⟨.tuple ⟨[.pointer none,int 2]⟩,[],[]⟩) (.ret ⟨.tuple ⟨[Al 20,int 0]⟩,[],[.abs (.pack (.EW ⟨n,0,[]⟩)) false]⟩)
 | _,_=> .fail
theorem SY:CH Tryz.prog AG Dk (Ab AG 20 [] N3):=by
 refine Ar (CQ.nil _ _) (by kernel_rfl) (n:=A5 Dk) (by kernel_rfl) (by kernel_rfl) fun argsc objs x hx hro=>?_
 clear hro;unfold N3 at hx;split at hx
 .rename_i n;refine⟨VC (by kernel_rfl),AZ.L5 ?_⟩;cases hb:(decide (n < 1)||decide (n > 8192))
  .simp only[GT.run,hb,AAR]at hx;cases hx
   simp only[ABk,ABE]at hb;have hv:Bu X0 Dn [] Dk [] 20 (fun v os=>v= .tuple ⟨[Al 20,int 0]⟩/\os=[some (.cells [.slice none 0 0,int n,int 0] 0 false)]) 200 (st Dk [.int .i64 n] (hp [])):=by
    rw[Wz];exact AU (fun h=>absurd h hb.1) fun _=>AU (fun h=>absurd h hb.2) fun _=>⟨rfl,rfl⟩
   refine AZ.mono (Aa.FG (Av (By _) (by kernel_rfl) hv)) fun v H hQ=>?_
   obtain⟨rfl,hQ⟩:=hQ;have hQ:[H.get 20]=_:=hQ;simp only[AAd,ABF]at hQ;refine nJ (m':=⟨n,0,[]⟩) (k:=21) ⟨by show(0:Int) < n;omega,by show n<=8192;omega,by show(0:Int)<=n;omega,ACL _,ACL _⟩ (by decide) hQ (.nil rfl) (.inl (by simp[Am,Al])) fun H2 _ h20=> .here ?_
   refine⟨[20],by simp,fun b hb=>by rw[AAg]at hb;rw[hb];exact AAT _,rfl,rfl,fun j b o hb ho=>?_,fun j o hj=>(by cases hj)⟩;cases j with
   | zero=>cases hb;cases ho;exact⟨_,rfl,h20⟩
   | succ j=>cases hb
  .simp only[GT.run,hb,AAO]at hx;cases hx
   have hv:Bu X0 Dn [] Dk [] 20 (fun v _=>v= .tuple ⟨[.pointer none,int 2]⟩) 200 (st Dk [.int .i64 n] (hp [])):=by
    rw[Wz];(conv=>zeta)
    simp only[ABa,AAl]at hb;exact AU (fun _=>rfl) fun h1=>AU (fun _=>rfl) fun h2=>absurd hb (by omega)
   refine AZ.mono (Aa.FG (Av (By _) (by kernel_rfl) hv)) fun v H hQ=> .here ?_
   have hQ:v=_:=hQ;subst hQ;exact⟨[],AA3,fun b hb=>(by cases hb),rfl,rfl,fun j b o hj=>(by cases hj),fun j o hj=>(by cases hj)⟩
 .cases hx
def xW:Value:= .func (.func Nw) ⟨[]⟩ ⟨[]⟩
def wJ(l:Au)(n:Nat)(d:Int):BU:=
 ⟨⟨Ax,JS [(0,Aq 20 n),(1,xW),(6,Aq 20 n),(7,int n),(8,int d)],A5 Ax,[.code (BN Tryz.prog Ax [1,0,1,0,0]),.inLoop (BN Tryz.prog Ax [1,0,1,0,0]),.inBlock 0,.code (BN Tryz.prog Ax [1,1])],[],false,.normal,none⟩,[],hp [.vec kI l true]⟩
def w5:Stop:=⟨Ax,0,3,21,[20],[0,1,6,7,8]⟩
theorem sC(l:Au)(n:Nat)(Q:Bz)(R:Cy):Pj X0 Dn [] Ax [] w5 [] Q R 100 (st Ax [Aq 20 n,xW] (hp [.vec kI l true]))=(
 (R (wJ l n 0))):=by kernel_rfl
theorem qQ(l:Au)(n:Nat)(d:Int)(Q:Bz)(R:Cy):Pj X0 Dn [] Ax [] w5 [] Q R 100 (wJ l n d)=(
 (bif decide (d < (n:Int))then(bif decide (0<=d)&&Nat.blt d.toNat n then(bif Nat.blt (0+d.toNat) l.length then(bif decide (List.getD l (0+d.toNat) (EK.BJ kI)>=0)then(bif decide (List.getD l (0+d.toNat) (EK.BJ kI)<=8192)then(R (wJ l n (IntKind.wrap .i64 (d+1))))else(Q (int d) []))else(Q (int d) []))else False)else False)else(Q (int (-1)) []))):=by kernel_rfl
def KS(x:Int):Bool:=decide (0<=x)&&decide (x<=8192)
def H6:Au->Nat->Int
 | [],_=> -1
 | x::l,i=>bif KS x then H6 l (i+1)else i
theorem Qb{l:Au}{i:Nat}(h:i < l.length):H6 (l.drop i) i=bif KS (l.getD i 0)then H6 (l.drop (i+1)) (i+1)else(i:Int):=by
 rw[ABm h,H6,AAX,AAU h];rfl
theorem K8:∀(l:Au)(i:Nat),(H6 l i= -1 <-> l.all KS=true)/\ -1<=H6 l i
 | [],_=>⟨by simp[H6],by simp[H6]⟩
 | x::l,i=>by
  have ih:=K8 l (i+1);unfold H6;cases h:KS x
  .simp only[AAR,ABN,h,ACn];exact⟨⟨fun h=>by omega,fun h=>by cases h⟩,by omega⟩
  .simp only[AAO,ABN,h,AB5];exact ih
theorem nH{l:Au}{n:Nat}(hn:n=l.length)(hs:n < 1000):∀(q i:Nat),n - i=q->i<=n->Aa X0 21 Ax (fun v _=>v=int (H6 (l.drop i) i)) (wJ l n i):=by
 intro q;induction q with
 | zero=>
  intro i hq hi;obtain rfl:i=n:=by omega
  refine DA (By X0) [] [] w5 [] (by kernel_rfl) (AAT _) (fun v _=>v=int (H6 (l.drop i) i)) (fun _=>False) (fun v H h=>h) (fun c h=>h.elim) (n:=100) ?_;rw[qQ];refine AU (fun h=>absurd h (by omega)) fun _=>?_
  rw[ABp (by omega)];rfl
 | succ q ih=>
  intro i hq hi;have hlt:i < n:=by omega
  refine DA (By X0) [] [] w5 [] (by kernel_rfl) (AAT _) (fun v _=>v=int (H6 (l.drop i) i)) (fun c=>KS (l.getD i 0)=true/\c=wJ l n (i+1:Nat)) (fun v H h=>h) (fun c h=>?_) (n:=100) ?_
  .obtain⟨h1,rfl⟩:=h;rw[Qb (by omega),h1];exact ih (i+1) (by omega) (by omega)
  .rw[qQ,Qb (by omega)];have e1:IntKind.wrap .i64 ((i:Int)+1)=((i+1:Nat):Int):=by rw[wrap64 (by omega) (by omega)];rfl
   have e2:l.getD (0+Int.toNat (i:Int)) (EK.BJ kI)=l.getD i 0:=by rw[AAj,AAa];rfl
   rw[e1,e2];refine AU (fun _=>AD ?_ (AD ?_ ?_)) fun h=>absurd (show(i:Int) < (n:Int) by omega) h
   .simp only[AAa,AAQ,AAl];exact⟨by omega,AAS hlt⟩
   .rw[AAj,AAa];exact AAS (by omega)
   .refine AU (fun h1=>AU (fun h2=>?_) fun h2=>?_) fun h1=>?_
    .have:KS (l.getD i 0)=true:=by unfold KS;simp only[AAQ,AAl];exact⟨h1,h2⟩
     exact⟨this,rfl⟩
    .have:KS (l.getD i 0)=false:=by unfold KS;simp only[ABf,ABE];exact .inr h2
     rw[this];rfl
    .have:KS (l.getD i 0)=false:=by unfold KS;simp only[ABf,ABE];exact .inl h1
     rw[this];rfl
def ixG(args:AL)(objs:Ay):GT:=
 match args,objs with
 | [.slice (some ⟨20,0,some 0⟩) n 18446744073709551616,.func (.func 192) ⟨[]⟩ ⟨[]⟩],[.vec [.int .i64] l _]=> .ask (n=l.length/\n < 1000) (.ret ⟨int (H6 l 0),[],[]⟩)
 | _,_=> .fail
theorem su:CH Tryz.prog AG Ax (Ab AG 20 [] ixG):=by
 refine Ar (CQ.nil _ _) (by kernel_rfl) (n:=A5 Ax) (by kernel_rfl) (by kernel_rfl) fun argsc objs x hx hro=>?_
 clear hro;unfold ixG at hx;split at hx
 .rename_i n l ro;simp only[GT.run]at hx;split at hx
  .rename_i hp;cases hx
   refine⟨VC (by kernel_rfl),AZ.mono (Q:=fun v _=>v=int (H6 l 0)) (Aa.FG ?_) fun v H hv=>?_⟩
   .refine DA (By X0) [] [] w5 [] (by kernel_rfl) (AAT _) (fun _ _=>False) (fun c=>c=wJ l n 0) (fun v H h=>h.elim) (fun c h=>?_) (n:=100) ?_
    .rw[h];have:=nH hp.1 hp.2 n 0 (by omega) (by omega);rw[AA5]at this;exact this
    .exact(sC l n _ _).symm ▸ rfl
   .subst hv;exact⟨[],AA3,fun b hb=>(by cases hb),rfl,rfl,fun j b o hj=>(by cases hj),fun j o hj hm ho=>(by cases hm)⟩
  .cases hx
 .cases hx
def cI:List Gc:=[EX Ax [] ixG]
abbrev XI:Ctx:=BY Tryz.prog AG (C8 cI)
def mj(a:Int)(d:Bool)(r n:Nat):Value:= .agg ⟨[int a,.bool d,Aq r n]⟩
theorem vH(a:Int)(d:Bool)(l:Au)(n:Nat)(Q:Bz):Bu XI (As cI) [] EF [] 21 Q 100 (st EF [mj a d 20 n] (hp [.vec kI l true]))=(
 let b:Prop:=Q (int 2) [];(bif decide (a>=0)then(bif decide (a<=1000000)then(bif decide (IntKind.wrap .i64 (Int.ofNat n - 1)>=0)then(bif decide (IntKind.wrap .i64 (Int.ofNat n - 1)<=33)then(n=l.length/\n < 1000)/\(bif decide (H6 l 0>=0)then b else(Q (int 0) []))else b)else b)else b)else b)):=by kernel_rfl
theorem okI:Ct cI:= .cons su .nil
def Ff(a:Int)(l:Au):Bool:=decide (0<=a)&&decide (a<=1000000)&&decide (1<=l.length)&&decide (l.length<=34)&&l.all KS
def MU(a:Int)(l:Au):Int:=bif Ff a l then 0 else 2
def th(args:AL)(objs:Ay):GT:=
 match args,objs with
 | [.agg ⟨[.int .i64 a,.bool _,.slice (some ⟨20,0,some 0⟩) n 18446744073709551616]⟩],[.vec [.int .i64] l _]=> .ask (n=l.length/\n < 1000) (.ret ⟨int (MU a l),[],[]⟩)
 | _,_=> .fail
theorem oY:CH Tryz.prog AG EF (Ab AG 20 [] th):=by
 refine Ar okI.all (by kernel_rfl) (n:=A5 EF) (by kernel_rfl) (by kernel_rfl) fun argsc objs x hx hro=>?_
 clear hro;unfold th at hx;split at hx
 .rename_i a d n l ro;simp only[GT.run]at hx;split at hx
  .rename_i hp0;cases hx
   obtain⟨rfl,hn⟩:=hp0;have hw:IntKind.wrap .i64 (Int.ofNat l.length - 1)=(l.length:Int) - 1:=Rf (by show(_:Int)<=(l.length:Int) - 1;omega) (by show(l.length:Int) - 1<=_;omega);have hv:Bu XI (As cI) [] EF [] 21 (fun v _=>v=int (MU a l)) 100 (st EF [mj a d 20 l.length] (hp [.vec kI l true])):=by
    rw[vH];(conv=>zeta);rw[hw]
    have e0:Ff a l=false->(int 2:Value)=int (MU a l):=fun h=>by unfold MU;rw[h];rfl
    refine AU (fun h1=>AU (fun h2=>AU (fun h3=>AU (fun h4=>⟨⟨rfl,hn⟩,AU (fun h5=>e0 ?_) fun h5=>?_⟩) fun h4=>e0 ?_) fun h3=>e0 ?_) fun h2=>e0 ?_) fun h1=>e0 ?_
    .have:l.all KS=false:=by
      cases h:l.all KS
      .rfl
      .have:=(K8 l 0).1.2 h;omega
     unfold Ff;rw[this];simp
    .have h6:=(K8 l 0).2;have:l.all KS=true:=(K8 l 0).1.1 (by omega);have e:Ff a l=true:=by unfold Ff;rw[this];simp only[AAQ,AAl,ABF];omega
     unfold MU;rw[e];rfl
    all_goals
     unfold Ff;simp only[ABf,ABE];omega
   refine⟨VC (by kernel_rfl),AZ.mono (Aa.FG (Av okI.pf (by kernel_rfl) hv)) fun v H hq=>?_⟩;have hq:v=_:=hq;subst hq;exact⟨[],AA3,fun b hb=>(by cases hb),rfl,rfl,fun j b o hj=>(by cases hj),fun j o hj hm ho=>(by cases hm)⟩
  .cases hx
 .cases hx
def cC:List Gc:=[EX EF [] th,EX IJ [] (SH kI 8)]
abbrev XC:Ctx:=BY Tryz.prog AG (C8 cC)
def PB:AJ:= .cells [.bool true,.pointer none] 0 false
def Ot(r:Nat):AJ:= .cells [.bool true,Al r] 0 false
def Xd(p:BG)(r:Nat):AJ:= .cells [int p.at_,.bool p.done,Aq r p.Ao.length] 0 false
def vZ(p:BG):AA:=hp [Ot 21,Xd p 22,.vec kI p.Ao false]
theorem fX(Q:Bz):Bu XC (As cC) [] BD [20] 21 Q 100 (st BD [Al 20] (hp [PB]))=(
 (Q (.bool false) [some (.cells [(.bool true),(.pointer none)] 0 false)])):=by kernel_rfl
theorem WO(p:BG)(Q:Bz):Bu XC (As cC) [] BD [20,21,22] 21 Q 100 (st BD [Al 20] (vZ p))=(
 let b:=BG.Ao p;let a:AJ:= .cells [(int (IntKind.wrap .i64 (BG.at_ p - 1))),(.bool (BG.done p)),(Aq 22 b.length)] 0 false;(bif decide (IntKind.wrap .i64 (BG.at_ p - 1) > 0)then(Q (.bool false) [some (.cells [(.bool true),(Al 21)] 0 false),some a,some (.vec kI b false)])else(Q (.bool true) [some (.cells [(.bool true),(.pointer none)] 0 false),some a,some (.vec kI b false)]))):=by kernel_rfl
theorem gH(Q:Bz):Bu XC (As cC) [] BO [20] 21 Q 100 (st BO [Al 20] (hp [PB]))=(
 (Q (.tuple ⟨[(.agg ⟨[(int 0),(.bool false),(.slice none 0 0)]⟩),(.bool false)]⟩) [some (.cells [(.bool true),(.pointer none)] 0 false)])):=by kernel_rfl
theorem fK(p:BG)(Q:Bz):Bu XC (As cC) [] BO [20,21,22] 21 Q 200 (st BO [Al 20] (vZ p))=(
 let b:=int (BG.at_ p);let a:=BG.Ao p;(0+a.length<=a.length/\Bn 8 a.length=true)/\(Q (.tuple ⟨[(.agg ⟨[b,(.bool (BG.done p)),(Aq 26 a.length)]⟩),(.bool true)]⟩) [some (.cells [(.bool true),(Al 21)] 0 false),some (.cells [b,(.bool (BG.done p)),(Aq 22 a.length)] 0 false),some (.vec kI a false),some (.vec ([SK.int IntKind.i64]) (List.take a.length (List.drop 0 a)) false)])):=by kernel_rfl
theorem pE(a:Int)(d:Bool)(l:Au)(n:Nat)(Q:Bz):Bu XC (As cC) [] BV [20,22,25] 22 Q 200 (st BV [Al 20,mj a d 21 n] (hp [PB,.vec kI l true]))=(
 let c:AJ:= .cells [(.bool true),(.pointer none)] 0 false;let b:AJ:= .cells [(int a),(.bool d),(Aq 21 n)] 0 false;(n=l.length/\n < 1000)/\(bif MU a l != 0 then(Q (int (MU a l)) [some c,some b,none])else(bif decide (a > 0)then(0+n<=l.length/\Bn 8 n=true)/\(Q (int 0) [some (.cells [(.bool true),(Al 22)] 0 false),some (.cells [(int a),(.bool d),(Aq 25 n)] 0 false),some (.vec ([SK.int IntKind.i64]) (List.take n (List.drop 0 l)) false)])else(Q (int 0) [some c,some b,none])))):=by kernel_rfl
theorem mT(p:BG)(a:Int)(d:Bool)(l:Au)(n:Nat)(Q:Bz):Bu XC (As cC) [] BV [20,22,23,24,27] 22 Q 200 (st BV [Al 20,mj a d 21 n] (hp [Ot 22,.vec kI l true,Xd p 23,.vec kI p.Ao false]))=(
 let e:AJ:= .cells [(int a),(.bool d),(Aq 21 n)] 0 false;let c:AJ:= .vec kI (BG.Ao p) false;let b:AJ:= .cells [(int (BG.at_ p)),(.bool (BG.done p)),(Aq 23 (BG.Ao p).length)] 0 false;(n=l.length/\n < 1000)/\(bif MU a l != 0 then(Q (int (MU a l)) [some (.cells [(.bool true),(Al 22)] 0 false),some b,some c,some e,none])else(bif decide (a > 0)then(0+n<=l.length/\Bn 8 n=true)/\(Q (int 0) [some (.cells [(.bool true),(Al 24)] 0 false),some b,some c,some (.cells [(int a),(.bool d),(Aq 27 n)] 0 false),some (.vec ([SK.int IntKind.i64]) (List.take n (List.drop 0 l)) false)])else(Q (int 0) [some (.cells [(.bool true),(.pointer none)] 0 false),some b,some c,some e,none])))):=by kernel_rfl
theorem oJ(Q:Bz):Bu XC (As cC) [] FP [] 20 Q 100 (st FP [] (hp []))=(
 (Q (Al 20) [some (.cells [(.bool true),(.pointer none)] 0 false)])):=by kernel_rfl
theorem Xe:Ct cC:= .cons oY (.cons jP .nil)
theorem Vz(objs:Ay)(hr:Bh (.timer none) objs):EU (DT ⟨.leaf,20⟩ [.abs (.pack (.timer none)) false]) 20 false objs (hp [PB]) []:=by
 cases hr with
 | ZB=>
  have:=F5 (N:=20) (s:= .timer none) (os:=[]) (o:=PB) (o1:=PB) (ps:=[]) (ps1:=[]) rfl rfl (fun i p hp=>by cases hp);have e:Dv ((DT ⟨.leaf,20⟩ [.abs (.pack (.timer none)) false]).put 20 PB) []=hp [PB]:=by kernel_rfl
  rw[e]at this;exact this
theorem dL(l:Au)(ro:Bool)(objs:Ay)(hr:Bh (.timer none) objs):EU (DT ⟨.leaf,20⟩ (.abs (.pack (.timer none)) false::Eg [true] 1 [.vec kI l ro])) 20 false objs (hp [PB,.vec kI l true]) []:=by
 cases hr with
 | ZB=>
  have:=F5 (N:=20) (s:= .timer none) (os:=[.vec kI l true]) (o:=PB) (o1:=PB) (ps:=[]) (ps1:=[]) rfl rfl (fun i p hp=>by cases hp);have e:Dv ((DT ⟨.leaf,20⟩ [.abs (.pack (.timer none)) false,.vec kI l true]).put 20 PB) []=hp [PB,.vec kI l true]:=by kernel_rfl
  rw[e]at this;exact this
theorem two{o1 o2:AJ}{p1 p2:AJ}{ρ:Ren}(h1:BF ρ o1=some p1)(h2:BF ρ o2=some p2):∀(i:Nat)(p:AJ),[o1,o2][i]? = some p->∃q,[p1,p2][i]? = some q/\BF ρ p=some q:=by
 intro i p hp;cases i with
 | zero=>cases hp;exact⟨_,rfl,h1⟩
 | succ i=>cases i with
  | zero=>cases hp;exact⟨_,rfl,h2⟩
  | succ i=>cases hp
theorem Rh(p:BG)(objs:Ay)(hr:Bh (.timer (some p)) objs):Ip p/\EU (DT ⟨.leaf,20⟩ [.abs (.pack (.timer (some p))) false]) 20 false objs (vZ p) []:=by
 cases hr with
 | Xv _ h=>
  refine⟨h,?_⟩;have:=F5 (N:=20) (s:= .timer (some p)) (os:=[]) (o:= .cells [.bool true,.pointer (some ⟨1,0,none⟩)] 0 false) (o1:=Ot 21) (ps:=[.cells [.int .i64 p.at_,.bool p.done,.slice (some ⟨2,0,some 0⟩) p.Ao.length cU] 0 false,.vec kI p.Ao false]) (ps1:=[Xd p 22,.vec kI p.Ao false]) rfl rfl (two rfl rfl);have e:Dv ((DT ⟨.leaf,20⟩ [.abs (.pack (.timer (some p))) false]).put 20 (Ot 21)) [Xd p 22,.vec kI p.Ao false]=vZ p:=by kernel_rfl
  rw[e]at this;exact this
theorem dB(p:BG)(l:Au)(ro:Bool)(objs:Ay)(hr:Bh (.timer (some p)) objs):Ip p/\EU (DT ⟨.leaf,20⟩ (.abs (.pack (.timer (some p))) false::Eg [true] 1 [.vec kI l ro])) 20 false objs (hp [Ot 22,.vec kI l true,Xd p 23,.vec kI p.Ao false]) []:=by
 cases hr with
 | Xv _ h=>
  refine⟨h,?_⟩;have:=F5 (N:=20) (s:= .timer (some p)) (os:=[.vec kI l true]) (o:= .cells [.bool true,.pointer (some ⟨1,0,none⟩)] 0 false) (o1:=Ot 22) (ps:=[.cells [.int .i64 p.at_,.bool p.done,.slice (some ⟨2,0,some 0⟩) p.Ao.length cU] 0 false,.vec kI p.Ao false]) (ps1:=[Xd p 23,.vec kI p.Ao false]) rfl rfl (two rfl rfl);have e:Dv ((DT ⟨.leaf,20⟩ [.abs (.pack (.timer (some p))) false,.vec kI l true]).put 20 (Ot 22)) [Xd p 23,.vec kI p.Ao false]=hp [Ot 22,.vec kI l true,Xd p 23,.vec kI p.Ao false]:=by kernel_rfl
  rw[e]at this;exact this
def mO(b0:Nat)(q:Option BG)(bs:AP)(H:AA):Prop:=match q with
 | none=>bs=[b0]/\H.get b0=some PB
 | some p=>∃r k,bs=[b0,r,k]/\[b0,r,k].Nodup/\H.get b0=some (Ot r)/\H.get r=some (Xd p k)/\H.get k=some (.vec kI p.Ao false)
def bq(q:Option BG):Prop:=∀p,q=some p->Ip p
theorem Rm{b0:Nat}{q:Option BG}{bs:AP}{H:AA}(hok:bq q)(h:mO b0 q bs H):∃objs,Bh (.timer q) objs/\bs[0]? = some b0/\bs.Nodup/\(∀b∈bs,Ia H [b0] b)/\GA bs H bs objs/\(∀o T,objs[0]? = some o->¬o.void T):=by
 cases q with
 | none=>
  obtain⟨rfl,h⟩:=h;exact⟨_,.ZB,rfl,by simp,fun b hb=> .here (by simpa using hb),⟨⟨_,h,rfl,rfl,rfl⟩,trivial⟩,fun o T ho=>by cases ho;exact id⟩
 | some p=>
  obtain⟨r,k,rfl,hnd,h1,h2,h3⟩:=h;refine⟨_,.Xv p (hok p rfl),rfl,hnd,fun b hb=>?_,⟨⟨_,h1,rfl,rfl,rfl⟩,⟨_,h2,rfl,rfl,rfl⟩,⟨_,h3,rfl,rfl,rfl⟩,trivial⟩,fun o T ho=>by cases ho;exact id⟩;have g1:Ia H [b0] r:= .next (.here (by simp)) h1 (by simp[Ig,Am,Al,Ot]);simp only[AAw,AA6,ABr]at hb;rcases hb with rfl | rfl | rfl
  .exact .here (by simp)
  .exact g1
  .exact .next g1 h2 (by simp[Ig,Am,Aq,Xd])
theorem P8{j:Nat}{q:Option BG}{bs:AP}{H:AA}{v:Value}(hok:bq q)(h:mO 20 q bs H)(hv:C4 6 v=true):HM AG 20 j (.timer q) v [] v H:=by
 obtain⟨objs,h1,h2,h3,h4,h5,h6⟩:=Rm hok h;exact Sh bs [] h1 rfl h2 h3 h4 h5 h6 AA3 (fun b hb=>by cases hb) (H7 6 v hv) trivial
def fp:Gz:=fun s rest os=>match s,rest,os with
 | .timer none,[],[]=> .ret ⟨.bool false,.timer none,[]⟩
 | .timer (some p),[],[]=> .test (decide (1 < p.at_)) (.ret ⟨.bool false,.timer (some ⟨p.at_ - 1,p.done,p.Ao⟩),[]⟩) (.ret ⟨.bool true,.timer none,[]⟩)
 | _,_,_=> .fail
theorem iB:CH Tryz.prog AG BD (Ab AG 20 [true] (Cl 20 fp)):=by
 refine Dq Xe.all (by kernel_rfl) (by kernel_rfl) (n:=A5 BD) (by kernel_rfl) (fun _=>rfl) fun s rest os=>?_
 unfold fp;split
 .refine⟨VC (by kernel_rfl),fun objs hr=>⟨_,Vz objs hr,?_⟩⟩;have hv:Bu XC (As cC) [] BD [20] 21 (fun v os=>v= .bool false/\os=[some PB]) 100 (st BD [Al 20] (hp [PB])):=by rw[fX];exact⟨rfl,rfl⟩
  refine AZ.mono (Aa.FG (Av Xe.pf (by kernel_rfl) hv)) fun v H ⟨e,hq⟩=>?_
  subst e;have hq:[H.get 20]=_:=hq;simp only[AAd,ABF]at hq;exact .here (P8 (q:=none) (fun p h=>by cases h) ⟨rfl,hq⟩ rfl)
 .rename_i p;have hw:Ip p->IntKind.wrap .i64 (p.at_ - 1)=p.at_ - 1:=fun h=>by
   have:=h.a0;have:=h.a1;exact wrap64 (by omega) (by omega)
  refine⟨fun hc=>⟨VC (by kernel_rfl),fun objs hr=>?_⟩,fun hc=>⟨VC (by kernel_rfl),fun objs hr=>?_⟩⟩
  .obtain⟨h1,h2⟩:=Rh p objs hr;have hc:1 < p.at_:=by simpa using hc
   refine⟨_,h2,?_⟩;have hv:Bu XC (As cC) [] BD [20,21,22] 21 (fun v os=>v= .bool false/\os=[some (Ot 21),some (Xd ⟨p.at_ - 1,p.done,p.Ao⟩ 22),some (.vec kI p.Ao false)]) 100 (st BD [Al 20] (vZ p)):=by
    rw[WO];(conv=>zeta);rw[hw h1]
    exact AU (fun _=>⟨rfl,rfl⟩) fun h=>absurd (by omega) h
   refine AZ.mono (Aa.FG (Av Xe.pf (by kernel_rfl) hv)) fun v H ⟨e,hq⟩=>?_
   subst e;have hq:[H.get 20,H.get 21,H.get 22]=_:=hq;simp only[AAd,ABF]at hq;refine .here (P8 (q:=some ⟨p.at_ - 1,p.done,p.Ao⟩) (fun p' h=>?_) ⟨21,22,rfl,by decide,hq.1,hq.2.1,hq.2.2⟩ rfl);cases h
   exact⟨by show(0:Int) < p.at_ - 1;omega,by show p.at_ - 1<=1000000;have:=h1.a1;omega,h1.k0,h1.k1,h1.k2⟩
  .obtain⟨h1,h2⟩:=Rh p objs hr;have hc:¬1 < p.at_:=by simpa using hc
   refine⟨_,h2,?_⟩;have hv:Bu XC (As cC) [] BD [20,21,22] 21 (fun v os=>v= .bool true/\∃t,os=some PB::t) 100 (st BD [Al 20] (vZ p)):=by
    rw[WO];(conv=>zeta);rw[hw h1]
    exact AU (fun h=>absurd h (by omega)) fun _=>⟨rfl,_,rfl⟩
   refine AZ.mono (Aa.FG (Av Xe.pf (by kernel_rfl) hv)) fun v H ⟨e,t,hq⟩=>?_
   subst e;have hq:H.get 20::_=_:=hq;simp only[AAd]at hq;exact .here (P8 (q:=none) (fun p h=>by cases h) ⟨rfl,hq.1⟩ rfl)
 .trivial
theorem gS{p:BG}(h:Ip p):0+p.Ao.length<=p.Ao.length/\Bn 8 p.Ao.length=true:=by
 have:=h.k1;exact⟨by omega,KN (by decide) (by omega)⟩
def kv:Gz:=fun s rest os=>match s,rest,os with
 | .timer none,[],[]=> .ret ⟨.tuple ⟨[.agg ⟨[int 0,.bool false,.slice none 0 0]⟩,.bool false]⟩,.timer none,[]⟩
 | .timer (some p),[],[]=> .ret ⟨.tuple ⟨[mj p.at_ p.done 21 p.Ao.length,.bool true]⟩,.timer (some p),[.vec kI p.Ao false]⟩
 | _,_,_=> .fail
theorem jg:CH Tryz.prog AG BO (Ab AG 20 [true] (Cl 20 kv)):=by
 refine Dq Xe.all (by kernel_rfl) (by kernel_rfl) (n:=A5 BO) (by kernel_rfl) (fun _=>rfl) fun s rest os=>?_
 unfold kv;split
 .refine⟨VC (by kernel_rfl),fun objs hr=>⟨_,Vz objs hr,?_⟩⟩;have hv:Bu XC (As cC) [] BO [20] 21 (fun v os=>v= .tuple ⟨[.agg ⟨[int 0,.bool false,.slice none 0 0]⟩,.bool false]⟩/\os=[some PB]) 100 (st BO [Al 20] (hp [PB])):=by rw[gH];exact⟨rfl,rfl⟩
  refine AZ.mono (Aa.FG (Av Xe.pf (by kernel_rfl) hv)) fun v H ⟨e,hq⟩=>?_
  subst e;have hq:[H.get 20]=_:=hq;simp only[AAd,ABF]at hq;exact .here (P8 (q:=none) (fun p h=>by cases h) ⟨rfl,hq⟩ rfl)
 .rename_i p;refine⟨VC (by kernel_rfl),fun objs hr=>?_⟩;obtain⟨h1,h2⟩:=Rh p objs hr;refine⟨_,h2,?_⟩;have hv:Bu XC (As cC) [] BO [20,21,22] 21 (fun v os=>v= .tuple ⟨[mj p.at_ p.done 26 p.Ao.length,.bool true]⟩/\os=[some (Ot 21),some (Xd p 22),some (.vec kI p.Ao false),some (.vec kI p.Ao false)]) 200 (st BO [Al 20] (vZ p)):=by
   rw[fK];refine⟨gS h1,rfl,?_⟩;rw[AA5,ABh];rfl
  refine AZ.mono (Aa.FG (Av Xe.pf (by kernel_rfl) hv)) fun v H ⟨e,hq⟩=>?_
  subst e;have hq:[H.get 20,H.get 21,H.get 22,H.get 26]=_:=hq;simp only[AAd,ABF]at hq;obtain⟨objs',k1,k2,k3,k4,k5,k6⟩:=Rm (b0:=20) (q:=some p) (bs:=[20,21,22]) (H:=H) (fun p' h=>by cases h;exact h1) ⟨21,22,rfl,by decide,hq.1,hq.2.1,hq.2.2.1⟩;exact .here (Sh _ [26] k1 rfl k2 k3 k4 k5 k6 (by simp) (fun b hb=>by rw[AAg]at hb;rw[hb];decide) rfl ⟨⟨_,rfl,hq.2.2.2⟩,trivial⟩)
 .trivial
theorem PR{a:Int}{l:Au}(h:Ff a l=true):(MU a l != 0)=false:=by unfold MU;rw[h];rfl
theorem Mr{a:Int}{l:Au}(h:Ff a l=false):(MU a l != 0)=true/\MU a l=2:=by unfold MU;rw[h];exact⟨rfl,rfl⟩
theorem V3{a:Int}{d:Bool}{l:Au}(h:Ff a l=true)(ha:0 < a):Ip ⟨a,d,l⟩:=by
 unfold Ff at h;simp only[AAQ,AAl]at h;refine⟨ha,h.1.1.1.2,by show 0 < l.length;omega,by show l.length<=34;omega,fun x hx=>?_⟩;have:=List.all_eq_true.1 h.2 x hx;unfold KS at this;simpa using this
def AAD(q:Option BG)(a:Int)(d:Bool)(l:Au):PT:=
 .test (Ff a l) (.test (decide (0 < a)) (.ret ⟨int 0,.timer (some ⟨a,d,l⟩),[]⟩) (.ret ⟨int 0,.timer none,[]⟩)) (.ret ⟨int 2,.timer q,[]⟩)
def tG:Gz:=fun s rest os=>match s,rest,os with
 | .timer q,[.agg ⟨[.int .i64 a,.bool d,.slice (some ⟨21,0,some 0⟩) n 18446744073709551616]⟩],[.vec [.int .i64] l _]=> .ask (n=l.length/\n < 1000) (AAD q a d l)
 | _,_,_=> .fail
theorem PT.Ut.test{Φ:PL->Prop}{c:Bool}{a b:PT}(h1:c=true->a.Ut Φ)(h2:c=false->b.Ut Φ):(PT.test c a b).Ut Φ:=⟨h1,h2⟩
theorem o6:CH Tryz.prog AG BV (Ab AG 20 [true] (Cl 20 tG)):=by
 refine Dq Xe.all (by kernel_rfl) (by kernel_rfl) (n:=A5 BV) (by kernel_rfl) (fun _=>rfl) fun s rest os=>?_
 unfold tG;split
 .rename_i q a d n l ro;rintro⟨rfl,hn⟩;have hl:Ff a l=true->l.length<=34:=fun h=>by
   unfold Ff at h;simp only[AAQ,AAl]at h;exact h.1.2
  have hbig:Ff a l=true->0+l.length<=l.length/\Bn 8 l.length=true:=fun h=>by
   have:=hl h;exact⟨by omega,KN (by decide) (by omega)⟩
  have fin:∀{v:Value}{H:AA}{bs:AP}{q':Option BG}{e:Int}{D:Nat->Prop},bq q'->v=int e->mO 20 q' bs H->Told D (HM AG 20 2 (.timer q') (int e) []) v H:=fun h1 h2 h3=>by subst h2;exact .here (P8 h1 h3 rfl)
  have ok1:Ff a l=true->0 < a->bq (some ⟨a,d,l⟩):=fun h h2 p e=>by cases e;exact V3 h h2
  have ok0:bq none:=fun p e=>by cases e
  cases q with
  | none=>
   have run:∀{P:Bz},_->Bu XC (As cC) [] BV [20,22,25] 22 P 200 (st BV [Al 20,mj a d 21 l.length] (hp [PB,.vec kI l true])):=fun {P} h=>(pE a d l l.length P).symm ▸ h
   refine .test (fun hc=> .test (fun ha=>?_) fun ha=>?_) fun hc=>?_
   all_goals
    refine⟨VC (by kernel_rfl),fun objs hr=>⟨_,dL l ro objs hr,?_⟩⟩
   .have ha:0 < a:=by simpa using ha
    refine AZ.mono (Aa.FG (Av Xe.pf (by kernel_rfl) (run (P:=fun v os=>v=int 0/\os=[some (Ot 22),some (Xd ⟨a,d,l⟩ 25),some (.vec kI l false)]) ⟨⟨rfl,hn⟩,AK (PR hc) (AU (fun _=>⟨hbig hc,rfl,by rw[AA5,ABh];rfl⟩) fun h=>absurd ha h)⟩))) fun v H ⟨e,hq⟩=>?_
    subst e;have hq:[H.get 20,H.get 22,H.get 25]=_:=hq;simp only[AAd,ABF]at hq;exact fin (ok1 hc ha) rfl ⟨22,25,rfl,by decide,hq.1,hq.2.1,hq.2.2⟩
   .have ha:¬0 < a:=by simpa using ha
    refine AZ.mono (Aa.FG (Av Xe.pf (by kernel_rfl) (run (P:=fun v os=>v=int 0/\∃t,os=some PB::t) ⟨⟨rfl,hn⟩,AK (PR hc) (AU (fun h=>absurd h ha) fun _=>⟨rfl,_,rfl⟩)⟩))) fun v H ⟨e,t,hq⟩=>?_
    subst e;have hq:H.get 20::_=_:=hq;simp only[AAd]at hq;exact fin ok0 rfl ⟨rfl,hq.1⟩
   .refine AZ.mono (Aa.FG (Av Xe.pf (by kernel_rfl) (run (P:=fun v os=>v=int 2/\∃t,os=some PB::t) ⟨⟨rfl,hn⟩,AD (Mr hc).1 ⟨congrArg int (Mr hc).2,_,rfl⟩⟩))) fun v H ⟨e,t,hq⟩=>?_
    subst e;have hq:H.get 20::_=_:=hq;simp only[AAd]at hq;exact fin ok0 rfl ⟨rfl,hq.1⟩
  | some p=>
   have run:∀{P:Bz},_->Bu XC (As cC) [] BV [20,22,23,24,27] 22 P 200 (st BV [Al 20,mj a d 21 l.length] (hp [Ot 22,.vec kI l true,Xd p 23,.vec kI p.Ao false])):=fun {P} h=>(mT p a d l l.length P).symm ▸ h
   refine .test (fun hc=> .test (fun ha=>?_) fun ha=>?_) fun hc=>?_
   all_goals
    refine⟨VC (by kernel_rfl),fun objs hr=>?_⟩;obtain⟨h1,h2⟩:=dB p l ro objs hr;refine⟨_,h2,?_⟩
   .have ha:0 < a:=by simpa using ha
    refine AZ.mono (Aa.FG (Av Xe.pf (by kernel_rfl) (run (P:=fun v os=>v=int 0/\∃x y,os=[some (Ot 24),x,y,some (Xd ⟨a,d,l⟩ 27),some (.vec kI l false)]) ⟨⟨rfl,hn⟩,AK (PR hc) (AU (fun _=>⟨hbig hc,rfl,_,_,by rw[AA5,ABh];rfl⟩) fun h=>absurd ha h)⟩))) fun v H ⟨e,x,y,hq⟩=>?_
    subst e;have hq:[H.get 20,H.get 22,H.get 23,H.get 24,H.get 27]=_:=hq;simp only[AAd,ABF]at hq;exact fin (ok1 hc ha) rfl ⟨24,27,rfl,by decide,hq.1,hq.2.2.2.1,hq.2.2.2.2⟩
   .have ha:¬0 < a:=by simpa using ha
    refine AZ.mono (Aa.FG (Av Xe.pf (by kernel_rfl) (run (P:=fun v os=>v=int 0/\∃t,os=some PB::t) ⟨⟨rfl,hn⟩,AK (PR hc) (AU (fun h=>absurd h ha) fun _=>⟨rfl,_,rfl⟩)⟩))) fun v H ⟨e,t,hq⟩=>?_
    subst e;have hq:H.get 20::_=_:=hq;simp only[AAd]at hq;exact fin ok0 rfl ⟨rfl,hq.1⟩
   .refine AZ.mono (Aa.FG (Av Xe.pf (by kernel_rfl) (run (P:=fun v os=>v=int 2/\∃t,os=some (Ot 22)::some (Xd p 23)::some (.vec kI p.Ao false)::t) ⟨⟨rfl,hn⟩,AD (Mr hc).1 ⟨congrArg int (Mr hc).2,_,rfl⟩⟩))) fun v H ⟨e,t,hq⟩=>?_
    subst e;have hq:H.get 20::H.get 22::H.get 23::_=_:=hq;simp only[AAd]at hq;exact fin (fun p' e=>by cases e;exact h1) rfl ⟨22,23,rfl,by decide,hq.1,hq.2.1,hq.2.2.1⟩
 .trivial
def ze:Gz:=fun s rest os=>match s,rest,os with
 | .timer q,[],[]=> .ret ⟨Al 21,.timer q,[.abs (.pack (.timer q)) false]⟩
 | _,_,_=> .fail
theorem qI{Φ:H5}{D:Nat->Prop}{v:Value}{H:AA}{z:Nat}{q:Option BG}{bs:AP}(hok:bq q)(h:mO z q bs H)(hA:z∈Am 4 v\/D z)(next:∀H2:AA,(∀x,x∉bs->H2.get x=H.get x)->H2.get z=some (.abs (.pack (.timer q)) false)->Told D Φ v H2):Told D Φ v H:=by
 obtain⟨objs,h1,h2,h3,h4,h5,h6⟩:=Rm hok h;exact .jD bs h1 rfl h2 hA h3 h4 h5 h6 next
def jy(args:AL)(objs:Ay):GT:=match args,objs with
 | [],[]=> .ret ⟨Al 20,[],[.abs (.pack (.timer none)) false]⟩
 | _,_=> .fail
theorem qO{s:Pk}{H:AA}{z:Nat}(hz:20<=z)(hg:H.get z=some (.abs (.pack s) false))(_hx:DO s=[]):D1 AG 20 0 [] ⟨Al 20,[],[.abs (.pack s) false]⟩ (Al z) H:=by
 refine⟨[z],by simp,fun b hb=>by rw[AAg]at hb;rw[hb];exact hz,rfl,rfl,fun j b o hb ho=>?_,fun j o hj=>(by cases hj)⟩;cases j with
 | zero=>cases hb;cases ho;exact⟨_,rfl,hg⟩
 | succ j=>cases hb
theorem iA:CH Tryz.prog AG FP (Ab AG 20 [] jy):=by
 refine Ar Xe.all (by kernel_rfl) (n:=A5 FP) (by kernel_rfl) (by kernel_rfl) fun argsc objs x hx hro=>?_
 clear hro;unfold jy at hx;split at hx
 .cases hx
  refine⟨AA4 _,AZ.L5 ?_⟩;have hv:Bu XC (As cC) [] FP [] 20 (fun v os=>v=Al 20/\os=[some PB]) 100 (st FP [] (hp [])):=by rw[oJ];exact⟨rfl,rfl⟩
  refine AZ.mono (Aa.FG (Av Xe.pf (by kernel_rfl) hv)) fun v H ⟨e,hq⟩=>?_
  subst e;have hq:[H.get 20]=_:=hq;simp only[AAd,ABF]at hq;exact qI (z:=20) (q:=none) (bs:=[20]) (fun p h=>by cases h) ⟨rfl,hq⟩ (.inl (by simp[Am,Al])) fun H2 g1 g2=> .here (qO (AAT _) g2 rfl)
 .cases hx
theorem nw{ρ:Ren}{a b j:Nat}(h:ρ a=some b):EI ρ (.pointer (some ⟨a,18446744073709551616,some j⟩))=some (.pointer (some ⟨b,18446744073709551616,some j⟩)):=by
 show(Jq ρ ⟨a,_,_⟩).map (fun a=>Value.pointer (some a))=_;simp only[Jq,h];rfl
theorem lL{ρ:Ren}{a b:Nat}(h:ρ a=some b)(n:Nat):DZ (EI ρ) (ED a n)=some (ED b n):=by
 have key:∀l:AP,DZ (EI ρ) (l.map fun j=>Value.pointer (some ⟨a,cU,some j⟩))=some (l.map fun j=>Value.pointer (some ⟨b,cU,some j⟩)):=by
  intro l;induction l with
  | nil=>rfl
  | cons j l ih=>
   simp only[AAn,DZ,ih];rw[nw h]
 exact key _
theorem OG{ρ:Ren}{a b:Nat}(h:ρ a=some b)(n:Nat)(ro:Bool):BF ρ (.vec [.tok] (ED a n) ro)=some (.vec [.tok] (ED b n) ro):=by
 show(DZ (EI ρ) (ED a n)).map _=_;rw[lL h];rfl
theorem Wp(a n:Nat):(ED a n).length=n:=by unfold ED;simp
theorem Wn{a n j:Nat}(h:j < n)(d:EK.C [.tok]):(ED a n).getD j d= .pointer (some ⟨a,cU,some j⟩):=by
 unfold ED;rw[AAX,AAi,ACS h];rfl
def MH(L:List AX):AJ:= .abs (.Bk (L.map fun m=>some (.EW m))) false
def Uv(r n:Nat):AJ:= .cells [Aq r n] 0 false
def qz(L:List AX):AA:=hp [Uv 21 L.length,.vec [.tok] (ED 22 L.length) false,MH L]
theorem Th(L:List AX)(objs:Ay)(hr:Bh (.Bt L) objs):(0 < L.length/\L.length<=34)/\EU (DT ⟨.leaf,20⟩ [.abs (.pack (.Bt L)) false]) 20 false objs (qz L) []:=by
 cases hr with
 | Bt _ h h2=>
  refine⟨⟨h,h2⟩,?_⟩;have:=F5 (N:=20) (s:= .Bt L) (os:=[]) (o:= .cells [.slice (some ⟨1,0,some 0⟩) L.length cU] 0 false) (o1:=Uv 21 L.length) (ps:=[.vec [.tok] (ED 2 L.length) false,MH L]) (ps1:=[.vec [.tok] (ED 22 L.length) false,MH L]) rfl rfl (two (OG (by rfl) _ _) rfl);have e:Dv ((DT ⟨.leaf,20⟩ [.abs (.pack (.Bt L)) false]).put 20 (Uv 21 L.length)) [.vec [.tok] (ED 22 L.length) false,MH L]=qz L:=by kernel_rfl
  rw[e]at this;exact this
theorem U7(L:List AX)(o:AJ)(objs:Ay)(hr:Bh (.Bt L) objs):(0 < L.length/\L.length<=34)/\EU (DT ⟨.leaf,20⟩ [.abs (.pack (.Bt L)) false,o]) 20 false objs (hp [Uv 22 L.length,o,.vec [.tok] (ED 23 L.length) false,MH L]) []:=by
 cases hr with
 | Bt _ h h2=>
  refine⟨⟨h,h2⟩,?_⟩;have:=F5 (N:=20) (s:= .Bt L) (os:=[o]) (o:= .cells [.slice (some ⟨1,0,some 0⟩) L.length cU] 0 false) (o1:=Uv 22 L.length) (ps:=[.vec [.tok] (ED 2 L.length) false,MH L]) (ps1:=[.vec [.tok] (ED 23 L.length) false,MH L]) rfl rfl (two (OG (by rfl) _ _) rfl);have e:Dv ((DT ⟨.leaf,20⟩ [.abs (.pack (.Bt L)) false,o]).put 20 (Uv 22 L.length)) [.vec [.tok] (ED 23 L.length) false,MH L]=hp [Uv 22 L.length,o,.vec [.tok] (ED 23 L.length) false,MH L]:=by kernel_rfl
  rw[e]at this;exact this
structure nq(b0 r a:Nat)(L:List AX)(H:AA):Prop where
 nd:[b0,r,a].Nodup
 g0:H.get b0=some (Uv r L.length)
 g1:H.get r=some (.vec [.tok] (ED a L.length) false)
 g2:H.get a=some (MH L)
theorem Pv{b0 r a:Nat}{L:List AX}{H:AA}(hn:0 < L.length)(hn2:L.length<=34)(h:nq b0 r a L H):∃objs,Bh (.Bt L) objs/\[b0,r,a][0]? = some b0/\[b0,r,a].Nodup/\(∀b∈[b0,r,a],Ia H [b0] b)/\GA [b0,r,a] H [b0,r,a] objs/\(∀o T,objs[0]? = some o->¬o.void T):=by
 refine⟨_,.Bt L hn hn2,rfl,h.nd,fun b hb=>?_,⟨⟨_,h.g0,rfl,rfl,rfl⟩,⟨_,h.g1,rfl,rfl,OG (by rfl) _ _⟩,⟨_,h.g2,rfl,rfl,rfl⟩,trivial⟩,fun o T ho=>by cases ho;exact id⟩;have g1:Ia H [b0] r:= .next (.here (by simp)) h.g0 (by simp[Ig,Am,Aq,Uv]);simp only[AAw,AA6,ABr]at hb;rcases hb with rfl | rfl | rfl
 .exact .here (by simp)
 .exact g1
 .refine .next g1 h.g1 ?_;show b∈(Ac [.tok] (ED b L.length)).flatMap (Am 4);rw[D8];refine List.mem_flatMap.2 ⟨.pointer (some ⟨b,cU,some 0⟩),?_,by simp[Am]⟩;unfold ED;exact List.mem_map.2 ⟨0,List.mem_range.2 hn,rfl⟩
theorem P6{j r a:Nat}{L:List AX}{H:AA}{v:Value}(hn:0 < L.length)(hn2:L.length<=34)(h:nq 20 r a L H)(hv:C4 6 v=true):HM AG 20 j (.Bt L) v [] v H:=by
 obtain⟨objs,h1,h2,h3,h4,h5,h6⟩:=Pv hn hn2 h;exact Sh _ [] h1 rfl h2 h3 h4 h5 h6 AA3 (fun b hb=>by cases hb) (H7 6 v hv) trivial
def VZ(f:FuncId)(muts:List Bool)(G:AL->Ay->GT)(s:Pk):Gc:=(f,Ps (Ab AG 20 muts G),kK (De AG 20 muts G) s)
theorem Ct.mem{f:FuncId}{muts:List Bool}{G:AL->Ay->GT}{s:Pk}{l:List Gc}(h:CH Tryz.prog AG f (Ab AG 20 muts G))(t:Ct l):Ct (VZ f muts G s::l):=by
 refine .other (i6 h) (fun X g hX args H K hk=>jC hX (fun args H K h=>?_) args H K hk) t;have hctx:(⟨X.P,X.laid,fun _=>some (Ab AG 20 muts G),X.BP⟩:Ctx).Hp g=some (Ab AG 20 muts G):=rfl;obtain⟨v,H',h1,h2⟩:=Gh hctx h;exact⟨v,H',h1,h2⟩
def cD(m:AX):List Gc:=[VZ BW [true] (Cl 20 Xf) (.EW m),VZ Ep [true] (Cl 20 (aw DP)) (.EW m),VZ Br [true] (Cl 20 UG) (.EW m),
 VZ FE [true] (Cl 20 jt) (.EW m),VZ Dy [true] (Cl 20 i7) (.EW m),VZ Em [true] (Cl 20 aF) (.EW m),VZ ER [true] (Cl 20 RU) (.EW m),EX Dk [] N3]
theorem yV(m:AX):Ct (cD m):= .mem bW (.mem Zi (.mem ZQ (.mem eQ (.mem dZ (.mem Xl (.mem XX (.cons SY .nil)))))))
abbrev XD:Ctx:=BY Tryz.prog AG (C8 (cD ⟨0,0,[]⟩))
theorem fsD(m m':AX):C8 (cD m)=C8 (cD m'):=rfl
theorem kE(m:AX):Hm XD (As (cD m)):=by
 have:=(yV m).pf;rw[fsD m ⟨0,0,[]⟩]at this;exact this
def au(a j:Nat):Value:= .pointer (some ⟨a,18446744073709551616,some j⟩)
def E1(L:List AX):List (Option Pk):=L.map fun m=>some (.EW m)
def VG(r a n:Nat)(l:List (Option Pk)):J9:=[some (Uv r n),some (.vec [.tok] (ED a n) false),some (.abs (.Bk l) false)]
def xH(L:List AX)(a:Nat)(s:Int)(j:Nat)(m:AX)(E:Int->Prop)(K:Prop):Prop:=
 bif decide (Int.ofNat L.length > 0)then(bif decide (s < 0)then E 3 else(bif decide (s>=Int.ofNat L.length)then E 3 else
  (bif decide (0<=s)&&Nat.blt s.toNat L.length then(bif Nat.blt (0+s.toNat) (ED a L.length).length then
   Ha (SK.enc SK.tok ((ED a L.length).getD (0+s.toNat) (EK.BJ [SK.tok]))) (au a j)/\Uc (E1 L) j (.EW m)/\K else False)else False)))else E 1
theorem Ua{L:List AX}{a:Nat}{s:Int}{j:Nat}{m:AX}{E:Int->Prop}{K:Prop}(h0:0 < L.length)(hs:s < 0\/s>=(L.length:Int))(h:E 3):xH L a s j m E K:=by
 refine AD (AAY (by show(L.length:Int) > 0;omega)) (AU (fun _=>h) fun h1=>AU (fun _=>h) fun h2=>?_);have h2:¬s>=(L.length:Int):=h2;omega
theorem aK{L:List AX}{j:Nat}{m:AX}(h:L[j]? = some m):(E1 L)[j]? = some (some (.EW m)):=by unfold E1;rw[AAi,h];rfl
theorem RS{L:List AX}{a:Nat}{s:Int}{m:AX}{E:Int->Prop}{K:Prop}(h1:0<=s)(h2:s < (L.length:Int))(hm:L[s.toNat]? = some m)(h:K):xH L a s s.toNat m E K:=by
 have hlt:s.toNat < L.length:=by omega
 refine AD (AAY (by show(L.length:Int) > 0;omega)) (AU (fun h=>absurd h (by omega)) fun _=>AU (fun h=>absurd h (by show ¬s>=(L.length:Int);omega)) fun _=>AD ?_ (AD ?_ ⟨⟨?_⟩,⟨aK hm⟩,h⟩))
 .simp only[AAQ,AAl];exact⟨h1,AAS hlt⟩
 .rw[Wp,AAj];exact AAS hlt
 .rw[AAj];exact Wn hlt _
theorem K0(L:List AX)(j:Nat)(m:AX):(E1 L).set j (some (.EW m))=E1 (L.set j m):=by unfold E1;rw[List.map_set]
def BR(L:List AX)(s:Int):Bool:=decide (s < 0)||decide (s>=L.length)
def eu(bad:Value)(v:AX->Value)(g:AX->AX):Gz:=fun p rest os=>match p,rest,os with
 | .Bt L,[.int .i64 s],[]=> .test (BR L s) (.ret ⟨bad,.Bt L,[]⟩) (.ret ⟨v (L.getD s.toNat ⟨0,0,[]⟩),.Bt (L.set s.toNat (g (L.getD s.toNat ⟨0,0,[]⟩))),[]⟩)
 | _,_,_=> .fail
theorem WU{L:List AX}{s:Int}(h:BR L s=false):0<=s/\s < (L.length:Int)/\L[s.toNat]? = some (L.getD s.toNat ⟨0,0,[]⟩):=by
 unfold BR at h;simp only[ABk,ABE]at h;have hlt:s.toNat < L.length:=by omega
 refine⟨by omega,by omega,?_⟩;rw[AAX,AAU hlt];rfl
theorem RO{L:List AX}{s:Int}(h:BR L s=true):s < 0\/s>=(L.length:Int):=by
 unfold BR at h;simpa using h
theorem Nk{r a n:Nat}{l:List (Option Pk)}{H:AA}{t t2:J9}(h:H.get 20::H.get r::H.get a::t=VG r a n l++t2):H.get 20=some (Uv r n)/\H.get r=some (.vec [.tok] (ED a n) false)/\H.get a=some (.abs (.Bk l) false)/\t=t2:=by
 simp only[VG,ABc,ABC,AAd]at h;exact h
theorem PA{f:FuncId}(he:entry Tryz.prog f=some (A5 f,BN Tryz.prog f []))(ha:Nat.ble 2 (A5 f)=true)(bad:Int->Value)(v:AX->Value)(g:AX->AX)(hb:C4 6 (bad 3)=true)(hv:∀m,C4 6 (v m)=true)(hvc:∀L m j s Q,Bu XD (As (cD m)) [(21,au 22 j)] f [20,21,22] 21 Q 300 (st f [Al 20,int s] (qz L))=xH L 22 s j m (fun e=>Q (bad e) (VG 21 22 L.length (E1 L))) (Gb (.EW (g m)) (E1 L) ((E1 L).set j none) j/\Q (v m) (VG 21 22 L.length ((E1 L).set j (some (.EW (g m))))))):
 CH Tryz.prog AG f (Ab AG 20 [true] (Cl 20 (eu (bad 3) v g))):=by
 refine Dq (yV ⟨0,0,[]⟩).all (by kernel_rfl) (by kernel_rfl) (n:=A5 f) he (fun _=>rfl) fun p rest os=>?_
 unfold eu;split
 .rename_i L s;refine .test (fun hc=>?_) fun hc=>?_
  all_goals refine⟨VC ha,fun objs hr=>?_⟩
  .obtain⟨⟨h0,h34⟩,h2⟩:=Th L objs hr;have hq:Bu XD (As (cD ⟨0,0,[]⟩)) [(21,au 22 0)] f [20,21,22] 21 (fun w os=>w=bad 3/\os=VG 21 22 L.length (E1 L)) 300 (st f [Al 20,int s] (qz L)):=by
    rw[hvc];exact Ua h0 (RO hc) ⟨rfl,rfl⟩
   refine⟨_,h2,AZ.mono (Aa.FG (Av (kE _) (by kernel_rfl) hq)) fun w H ⟨e,hq⟩=>?_⟩;subst e;obtain⟨g0,g1,g2,_⟩:=Nk (t:=(Am 4 (bad 3)).map H.get) (t2:=[]) (by rw[ABq];exact hq);exact .here (P6 h0 h34 ⟨by decide,g0,g1,g2⟩ hb)
  .obtain⟨⟨h0,h34⟩,h2⟩:=Th L objs hr;obtain⟨k1,k2,k3⟩:=WU hc;generalize L.getD s.toNat ⟨0,0,[]⟩=m at k3 ⊢;have hq:Bu XD (As (cD m)) [(21,au 22 s.toNat)] f [20,21,22] 21 (fun w os=>w=v m/\os=VG 21 22 L.length (E1 (L.set s.toNat (g m)))) 300 (st f [Al 20,int s] (qz L)):=by
    rw[hvc];exact RS k1 k2 k3 ⟨⟨rfl,rfl⟩,rfl,by rw[K0]⟩
   refine⟨_,h2,AZ.mono (Aa.FG (Av (kE _) (by kernel_rfl) hq)) fun w H ⟨e,hq⟩=>?_⟩;subst e;obtain⟨g0,g1,g2,_⟩:=Nk (t:=(Am 4 (v m)).map H.get) (t2:=[]) (by rw[ABq];exact hq);refine .here (P6 (r:=21) (a:=22) (by rw[AAk];exact h0) (by rw[AAk];exact h34) ⟨by decide,?_,?_,g2⟩ (hv m))
   .rw[AAk];exact g0
   .rw[AAk];exact g1
 .trivial
theorem Yo:CH Tryz.prog AG JR (Ab AG 20 [true] (Cl 20 (eu (int 3) (fun _=>int 0) DP))):=PA (by kernel_rfl) (by kernel_rfl) int _ DP rfl (fun _=>rfl) fun L m j s Q=>by kernel_rfl
def Cf(a b:Int):Value:= .tuple ⟨[int a,int b]⟩
theorem c8:CH Tryz.prog AG Jx (Ab AG 20 [true] (Cl 20 (eu (Cf 0 3) (fun m=>Cf m.b.length 0) id))):=PA (by kernel_rfl) (by kernel_rfl) (Cf 0) _ id rfl (fun _=>rfl) fun L m j s Q=>by kernel_rfl
theorem br:CH Tryz.prog AG He (Ab AG 20 [true] (Cl 20 (eu (Cf 0 3) (fun m=>Cf m.HT 0) id))):=PA (by kernel_rfl) (by kernel_rfl) (Cf 0) _ id rfl (fun _=>rfl) fun L m j s Q=>by kernel_rfl
theorem Ye:CH Tryz.prog AG I5 (Ab AG 20 [true] (Cl 20 (eu (Cf 0 3) (fun m=>Cf (m.size - m.b.length) 0) id))):=PA (by kernel_rfl) (by kernel_rfl) (Cf 0) _ id rfl (fun _=>rfl) fun L m j s Q=>by kernel_rfl
def wI(l:Au)(n:Nat)(m i:Int):BU:=
 ⟨⟨BM,JS [(0,Aq 20 n),(3,int m),(4,int i)],A5 BM,[.code (BN Tryz.prog BM [1,1,1,0,1,0,0]),.inLoop (BN Tryz.prog BM [1,1,1,0,1,0,0]),.inBlock 0,.code (BN Tryz.prog BM [1,1,1,1])],[],false,.normal,none⟩,[],hp [.vec kI l true]⟩
def xd:Stop:=⟨BM,0,3,21,[20],[0,3,4]⟩
theorem u9(l:Au)(n:Nat)(Q:Bz)(R:Cy):Pj X0 Dn [] BM [] xd [] Q R 100 (st BM [Aq 20 n] (hp [.vec kI l true]))=(
 (bif decide (Int.ofNat n < 1)then False else(bif decide (0<=0)&&Nat.blt 0 n then(bif Nat.blt 0 l.length then(R (wI l n (List.getD l 0 (EK.BJ kI)) 1))else False)else False))):=by kernel_rfl
theorem rl(l:Au)(n:Nat)(m i:Int)(Q:Bz)(R:Cy):Pj X0 Dn [] BM [] xd [] Q R 100 (wI l n m i)=(
 (bif decide (i < Int.ofNat n)then(bif decide (0<=i)&&Nat.blt i.toNat n then(bif Nat.blt (0+i.toNat) l.length then(R (wI l n (if List.getD l (0+i.toNat) (EK.BJ kI) < m then List.getD l (0+i.toNat) (EK.BJ kI)else m) (IntKind.wrap .i64 (i+1))))else False)else False)else(Q (int m) []))):=by kernel_rfl
def di(m:Int):Au->Int
 | []=>m
 | x::l=>di (if x < m then x else m) l
def my:Au->Int
 | []=>0
 | x::l=>di x l
theorem Ol:∀(l:Au)(m:Int),0<=m->(∀x∈l,0<=x)->0<=di m l
 | [],_,h,_=>h
 | x::l,m,h,hl=>Ol l _ (by split<;>first | exact hl x (by simp) | exact h) fun y hy=>hl y (by simp[hy])
theorem Ve{l:Au}(h:∀x∈l,0<=x):0<=my l:=by
 cases l with
 | nil=>exact ACL _
 | cons x l=>exact Ol l x (h x (by simp)) fun y hy=>h y (by simp[hy])
theorem pw{l:Au}{n:Nat}(hn:n=l.length)(hs:n < 1000):∀(q i:Nat)(m:Int),n - i=q->i<=n->Aa X0 21 BM (fun v _=>v=int (di m (l.drop i))) (wI l n m i):=by
 intro q;induction q with
 | zero=>
  intro i m hq hi;refine DA (By X0) [] [] xd [] (by kernel_rfl) (AAT _) (fun v _=>v=int (di m (l.drop i))) (fun _=>False) (fun v H h=>h) (fun c h=>h.elim) (n:=100) ?_;rw[rl];refine AU (fun h=>absurd (show(i:Int) < (n:Int)from h) (by omega)) fun _=>?_
  rw[ABp (by omega)];rfl
 | succ q ih=>
  intro i m hq hi;have hlt:i < l.length:=by omega
  refine DA (By X0) [] [] xd [] (by kernel_rfl) (AAT _) (fun _ _=>False) (fun c=>c=wI l n (if l.getD i 0 < m then l.getD i 0 else m) (i+1:Nat)) (fun v H h=>h.elim) (fun c h=>?_) (n:=100) ?_
  .rw[h];have:=ih (i+1) (if l.getD i 0 < m then l.getD i 0 else m) (by omega) (by omega);rw[ABm hlt,di];rw[AAX,AAU hlt]at this ⊢;exact this
  .rw[rl];have e1:IntKind.wrap .i64 ((i:Int)+1)=((i+1:Nat):Int):=by rw[wrap64 (by omega) (by omega)];rfl
   have e2:l.getD (0+Int.toNat (i:Int)) (EK.BJ kI)=l.getD i 0:=by rw[AAj,AAa];rfl
   rw[e1,e2];refine AU (fun _=>AD ?_ (AD ?_ rfl)) fun h=>absurd (show(i:Int) < (n:Int) by omega) h
   .simp only[AAa,AAQ,AAl];exact⟨by omega,AAS (by omega)⟩
   .rw[AAj,AAa];exact AAS (by omega)
def zc(args:AL)(objs:Ay):GT:=
 match args,objs with
 | [.slice (some ⟨20,0,some 0⟩) n 18446744073709551616],[.vec [.int .i64] l _]=> .ask (n=l.length/\0 < n/\n < 1000) (.ret ⟨int (my l),[],[]⟩)
 | _,_=> .fail
theorem Cp{m:Nat}{v:Value}{H:AA}(hv:C4 6 v=true):D1 AG 20 m [] ⟨v,[],[]⟩ v H:=⟨[],AA3,fun b hb=>(by cases hb),rfl,H7 6 v hv,fun j b o hj=>(by cases hj),fun j o hj hm=>(by cases hm)⟩
theorem oU:CH Tryz.prog AG BM (Ab AG 20 [] zc):=by
 refine Ar (CQ.nil _ _) (by kernel_rfl) (n:=A5 BM) (by kernel_rfl) (by kernel_rfl) fun argsc objs x hx hro=>?_
 clear hro;unfold zc at hx;split at hx
 .rename_i n l ro;simp only[GT.run]at hx;split at hx
  .rename_i hp0;cases hx
   obtain⟨hn,h0,hs⟩:=hp0;refine⟨VC (by kernel_rfl),AZ.mono (Q:=fun v _=>v=int (my l)) (Aa.FG ?_) fun v H hv=>by subst hv;exact Cp rfl⟩;refine DA (By X0) [] [] xd [] (by kernel_rfl) (AAT _) (fun _ _=>False) (fun c=>c=wI l n (l.getD 0 0) 1) (fun v H h=>h.elim) (fun c h=>?_) (n:=100) ?_
   .rw[h];cases l with
    | nil=>simp at hn;omega
    | cons x l=>exact pw hn hs (n - 1) 1 x rfl (by omega)
   .refine(u9 l n _ _).symm ▸ ?_;refine AU (fun h=>absurd (show(n:Int) < 1 from h) (by omega)) fun _=>AD ?_ (AD ?_ rfl)
    .simp only[AAQ,AAl];exact⟨by decide,AAS h0⟩
    .exact AAS (by omega)
  .cases hx
 .cases hx
def cR(m:AX):List Gc:=EX BM [] zc::cD m
abbrev XR:Ctx:=BY Tryz.prog AG (C8 (cR ⟨0,0,[]⟩))
def yp(ids:AP)(l:List (EK.C [.tok])):List (EK.C [.tok]):=List.map (NT (Fk 24 ids)) l
def lu(L:List AX)(o:List (Option Pk))(Ao:Au)(row:List (EK.C [.tok]))(n i:Int):BU:=
 ⟨⟨Db,JS [(0,.func (.yield 26) ⟨[]⟩ ⟨[]⟩),(1,Al 24),(5,int n),(6,int i)],A5 Db,[.code (BN Tryz.prog Db [1,0,0]),.inLoop (BN Tryz.prog Db [1,0,0]),.inBlock 0],[],false,.normal,none⟩,
  [⟨A2,JS [(2,Al 28),(3,Al 27)],A5 A2,[.inRangeFunc 26,.inBlock 1,.code (BN Tryz.prog A2 [1,1,1])],[⟨.collected 25,⟨[]⟩⟩],false,.normal,none⟩],
  (((((hp [Uv 22 L.length,.vec kI Ao true,.vec [.tok] row false,.abs (.Bk o) false]).alloc (.cells [Al 20] 0 false)).alloc (.deferred (some []))).alloc (.loop ⟨.ready,none,A2,JS [(2,Al 28),(3,Al 27)],A5 A2,#[26],BN Tryz.prog A2 [1,1,0,1,0,0],BN Tryz.prog A2 [1,1,0,1,0,1],25⟩)).alloc (.cells [Aq 21 Ao.length] 0 false)).alloc (.cells [Al 20] 0 false)⟩
def yR:Stop:=⟨Db,1,2,24,[20,21,22,23],[0,1,5,6]⟩
def yO:GJ:=[(A2,[2,3])]
theorem ud(L:List AX)(m:AX)(Ao:Au)(Q:Bz)(R:Cy):Pj XR (As (cR m)) [] A2 [20,22,23] yR yO Q R 300 (st A2 [Al 20,Aq 21 Ao.length] (hp [Uv 22 L.length,.vec kI Ao true,.vec [.tok] (ED 23 L.length) false,MH L]))=(
 let d:=Int.ofNat L.length > 0;let c:=yp [26,27,28,25,24] (ED 23 L.length);let b:AJ:= .cells [(Aq 22 L.length)] 0 false;let a:AJ:= .vec [SK.tok] (ED 23 L.length) false;(bif decide d then(bif decide (Int.ofNat Ao.length < 1)then(Q (int 2) [some b,some a,some (.abs (CR.Bk (List.map (fun m_1=>some (Pk.EW m_1)) L)) false)])else(bif decide (Int.ofNat Ao.length > 34)then(Q (int 2) [some b,some a,some (.abs (CR.Bk (List.map (fun m_1=>some (Pk.EW m_1)) L)) false)])else(Ao.length=Ao.length/\0 < Ao.length/\Ao.length < 1000)/\(bif decide (my Ao < 0)then(Q (int 2) [some b,some a,some (.abs (CR.Bk (List.map (fun m_1=>some (Pk.EW m_1)) L)) false)])else(bif decide d then(R (lu L (E1 L) Ao c (Int.ofNat L.length) 0))else(R (lu L (E1 L) Ao c 0 0))))))else(Q (int 1) [some b,some a,some (.abs (CR.Bk (List.map (fun m_1=>some (Pk.EW m_1)) L)) false)]))):=by kernel_rfl
theorem qg(L:List AX)(o:List (Option Pk))(m:AX)(Ao:Au)(row:List (EK.C [.tok]))(j:Nat)(n i:Int)(Q:Bz)(R:Cy):Pj XR (As (cR m)) [(22,au 23 j)] A2 [20,22,23] yR yO Q R 500 (lu L o Ao row n i)=(
 let q:=Int.ofNat Ao.length;let p:=((AX.b m).length:Int);let l:=PL.nx { v:=int 2,nx:=Pk.EW m,news:=[] };let k:=IntKind.wrap .i64 (i+1);let h:=yp [24,25,26,27,28] row;let f:=PL.nx { v:=int p,nx:=Pk.EW m,news:=[] };let e:=Ha (SK.enc SK.tok (List.getD row (0+i.toNat) (EK.BJ [SK.tok]))) (Prod.snd (22,au 23 j));let d:=Int.tmod i q;let c:=if 8192 < List.getD Ao (0+d.toNat) (EK.BJ kI)then 8192 else List.getD Ao (0+d.toNat) (EK.BJ kI);let g:=PL.nx { v:=int 0,nx:=Pk.EW (M5 m c),news:=[] };let a:=List.set o j (some f);let r:=List.set a j none;(bif decide (i < n)then(bif decide (0<=i)&&Nat.blt i.toNat L.length then(bif Nat.blt (0+i.toNat) row.length then e/\(Uc o j (Pk.EW m))/\(Gb f o (List.set o j none) j)/\(bif decide (p > 0)then(bif decide (0<=i)&&Nat.blt i.toNat L.length then(bif Nat.blt (0+i.toNat) row.length then e/\(bif decide (Int.ofNat Ao.length≠0)then(bif decide (0<=Int.tmod i q)&&Nat.blt d.toNat Ao.length then(bif Nat.blt (0+d.toNat) Ao.length then(Uc a j (Pk.EW m))/\(bif decide (c < 0)then(Gb l a r j)/\(R (lu L (List.set a j (some l)) Ao h n k))else(Gb g a r j)/\(R (lu L (List.set a j (some g)) Ao h n k)))else False)else False)else False)else False)else False)else(R (lu L a Ao h n k)))else False)else False)else(Q (int 0) [some (.cells [(Aq 22 L.length)] 0 false),some (.vec [SK.tok] row false),some (.abs (CR.Bk o) false)]))):=by kernel_rfl
theorem okR(m:AX):Ct (cR m):= .cons oU (yV m)
theorem sP(m:AX):Hm XR (As (cR m)):=by
 have:=(okR m).pf;have e:C8 (cR m)=C8 (cR ⟨0,0,[]⟩):=rfl;rw[e]at this;exact this
def i0:AX:=⟨0,0,[]⟩
def UH(Ao:Au)(i:Nat):Int:=if 8192 < Ao.getD (i % Ao.length) 0 then 8192 else Ao.getD (i % Ao.length) 0
def Wj(Ao:Au)(i:Nat)(m:AX):AX:=bif decide (0 < m.b.length)then M5 m (UH Ao i)else m
def Fg(Ao:Au)(L:List AX):Nat->List AX
 | 0=>L
 | i+1=>(Fg Ao L i).set i (Wj Ao i (L.getD i i0))
theorem Fw(Ao:Au)(L:List AX):∀i,(Fg Ao L i).length=L.length
 | 0=>rfl
 | i+1=>by rw[Fg,AAk,Fw Ao L i]
theorem WR(Ao:Au)(L:List AX):∀(i k:Nat),(Fg Ao L i)[k]? = if k < i then(L[k]?).map (Wj Ao k)else L[k]?
 | 0,k=>by simp[Fg]
 | i+1,k=>by
  rw[Fg,AAe,Fw,WR Ao L i k]
  by_cases e:i=k
  .subst e;rw[AAZ rfl,AAZ (Nat.lt_succ_self i)]
   by_cases h:i < L.length
   .rw[AAZ h,AAX,AAU h];rfl
   .rw[AAW h,AAq (by omega)];rfl
  .rw[AAW e]
   by_cases h:k < i
   .rw[AAZ h,AAZ (by omega)]
   .rw[AAW h,AAW (by omega)]
theorem gM(ids:AP)(n:Nat):yp ids (ED 23 n)=ED 23 n:=by
 unfold yp ED;rw[ACY];exact AB9 fun j _=>rfl
structure KP(Ao:Au):Prop where
 k0:0 < Ao.length
 k1:Ao.length<=34
 k2:∀x∈Ao,0<=x
theorem dG{Ao:Au}(h:KP Ao)(i:Nat):0<=UH Ao i:=by
 have hlt:i % Ao.length < Ao.length:=ACQ _ h.k0;have:0<=Ao.getD (i % Ao.length) 0:=by
  rw[AAX,AAU hlt];exact h.k2 _ (ABz hlt)
 unfold UH;split<;>omega
def sv(L:List AX)(v:Value)(os:J9):Prop:=v=int 0/\os=VG 22 23 L.length (E1 L)
theorem nX{L:List AX}{Ao:Au}(hk:KP Ao)(h0:0 < L.length)(h34:L.length<=34):∀(q i:Nat),L.length - i=q->i<=L.length->
 Aa XR 22 A2 (fun v H=>sv (Fg Ao L L.length) v (([20,22,23]++Am 4 v).map H.get)) (lu L (E1 (Fg Ao L i)) Ao (ED 23 L.length) L.length i):=by
 intro q;induction q with
 | zero=>
  intro i hq hi;obtain rfl:i=L.length:=by omega
  refine DA (sP i0) [(22,au 23 0)] [20,22,23] yR yO (by kernel_rfl) (by decide) (sv (Fg Ao L L.length)) (fun _=>False) (fun v H h=>h) (fun c h=>h.elim) (n:=500) ?_;rw[qg];refine AU (fun h=>absurd h (by omega)) fun _=>⟨rfl,?_⟩
  show _=VG 22 23 (Fg Ao L L.length).length _;rw[Fw];rfl
 | succ q ih=>
  intro i hq hi;have hlt:i < L.length:=by omega
  have hm:(Fg Ao L i)[i]? = some (L.getD i i0):=by
   rw[WR,AAW (ABY i),AAX,AAU hlt];rfl
  have hw:IntKind.wrap .i64 ((i:Int)+1)=((i+1:Nat):Int):=by rw[wrap64 (by omega) (by omega)];rfl
  refine DA (sP (L.getD i i0)) [(22,au 23 i)] [20,22,23] yR yO (by kernel_rfl) (by decide) (fun _ _=>False) (fun c=>c=lu L (E1 (Fg Ao L (i+1))) Ao (ED 23 L.length) L.length (i+1:Nat)) (fun v H h=>h.elim) (fun c h=>by rw[h];exact ih (i+1) (by omega) (by omega)) (n:=500) ?_;generalize hgm:L.getD i i0=m at hm;rw[qg];(conv=>zeta);rw[gM,hw]
  have c1:(decide (0<=(i:Int))&&Nat.blt (Int.toNat (i:Int)) L.length)=true:=by
   simp only[AAa,AAQ,AAl];exact⟨by omega,AAS hlt⟩
  have c2:Nat.blt (0+Int.toNat (i:Int)) (ED 23 L.length).length=true:=by
   rw[Wp,AAj,AAa];exact AAS hlt
  have c3:Ha (SK.enc SK.tok ((ED 23 L.length).getD (0+Int.toNat (i:Int)) (EK.BJ [SK.tok]))) (au 23 i):=⟨by rw[AAj,AAa];exact Wn hlt _⟩;have hset:∀(o:List (Option Pk))(x:Option Pk),(o.set i x).set i=o.set i:=fun o x=>by funext y;exact ACK ..
  have hup:∀m',m'=Wj Ao i m->(E1 (Fg Ao L i)).set i (some (.EW m'))=E1 (Fg Ao L (i+1)):=fun m' e=>by rw[K0,Fg,hgm,e]
  refine AU (fun _=>AD c1 (AD c2 ⟨c3,⟨aK hm⟩,⟨rfl,rfl⟩,AU (fun hb=>?_) fun hb=>?_⟩)) fun h=>absurd (show(i:Int) < (L.length:Int) by omega) h
  .have hbl:0 < m.b.length:=by omega
   have hk0:=hk.k0;have e4:Int.tmod (i:Int) (Int.ofNat Ao.length)=((i % Ao.length:Nat):Int):=by show Int.tmod (i:Int) (Ao.length:Int)=_;rw[AB7 (by omega)];rfl
   have hml:i % Ao.length < Ao.length:=ACQ _ hk0;have e5:Ao.getD (0+Int.toNat ((i % Ao.length:Nat):Int)) (EK.BJ kI)=Ao.getD (i % Ao.length) 0:=by rw[AAj,AAa];rfl
   have e6:(if 8192 < Ao.getD (i % Ao.length) 0 then 8192 else Ao.getD (i % Ao.length) 0)=UH Ao i:=rfl;rw[e4,e5,e6];refine AD c1 (AD c2 ⟨c3,AU (fun _=>AD ?_ (AD ?_ ⟨⟨?_⟩,AU (fun h=>absurd (dG hk i) (by omega)) fun _=>⟨⟨rfl,rfl⟩,?_⟩⟩)) fun h=>absurd (show(Int.ofNat Ao.length)≠0 by show(Ao.length:Int)≠0;omega) h⟩)
   .simp only[AAa,AAQ,AAl];exact⟨by omega,AAS hml⟩
   .rw[AAj,AAa];exact AAS hml
   .rw[AAe,AAZ rfl,AAZ];unfold E1;rw[ABI,Fw];exact hlt
   .rw[ACK];rw[hup _ (by unfold Wj;rw[AAY hbl];rfl)]
  .have hbl:¬0 < m.b.length:=by omega
   show lu _ _ _ _ _ _=_;rw[hup m (by unfold Wj;rw[AAb hbl];rfl)]
def crQ:Gz:=fun p rest os=>match p,rest,os with
 | .Bt L,[.slice (some ⟨21,0,some 0⟩) n 18446744073709551616],[.vec [.int .i64] Ao _]=> .ask (n=Ao.length/\KP Ao) (.ret ⟨int 0,.Bt (Fg Ao L L.length),[]⟩)
 | _,_,_=> .fail
theorem Vi:CH Tryz.prog AG A2 (Ab AG 20 [true] (Cl 20 crQ)):=by
 refine Dq (okR i0).all (by kernel_rfl) (by kernel_rfl) (n:=A5 A2) (by kernel_rfl) (fun _=>rfl) fun p rest os=>?_
 unfold crQ;split
 .rename_i L n Ao ro;rintro⟨rfl,hk⟩;refine⟨VC (by kernel_rfl),fun objs hr=>?_⟩;obtain⟨⟨h0,h34⟩,h2⟩:=U7 L (.vec kI Ao true) objs hr;refine⟨_,h2,?_⟩;have hrun:Aa XR 22 A2 (fun v H=>sv (Fg Ao L L.length) v (([20,22,23]++Am 4 v).map H.get)) (st A2 [Al 20,Aq 21 Ao.length] (hp [Uv 22 L.length,.vec kI Ao true,.vec [.tok] (ED 23 L.length) false,MH L])):=by
   refine DA (sP i0) [] [20,22,23] yR yO (by kernel_rfl) (by decide) (fun _ _=>False) (fun c=>c=lu L (E1 L) Ao (ED 23 L.length) L.length 0) (fun v H h=>h.elim) (fun c h=>by rw[h];exact nX hk h0 h34 L.length 0 rfl (AA4 _)) (n:=300) ?_;rw[ud];(conv=>zeta);rw[gM]
   have:=hk.k0;have:=hk.k1;refine AD (AAY (by show(L.length:Int) > 0;omega)) (AU (fun h=>absurd (show(Ao.length:Int) < 1 from h) (by omega)) fun _=>AU (fun h=>absurd (show(Ao.length:Int) > 34 from h) (by omega)) fun _=>⟨⟨rfl,hk.k0,by omega⟩,AU (fun h=>absurd (Ve hk.k2) (by omega)) fun _=>AD (AAY (by show(L.length:Int) > 0;omega)) ?_⟩);rfl
  refine AZ.mono (Aa.FG hrun) fun v H ⟨e,hq⟩=>?_
  subst e;obtain⟨g0,g1,g2,_⟩:=Nk (t:=[]) (t2:=[]) (by rw[ABq];exact hq);exact .here (P6 (r:=22) (a:=23) (by rw[Fw];exact h0) (by rw[Fw];exact h34) ⟨by decide,g0,g1,g2⟩ rfl)
 .trivial
theorem QU(L:List AX)(m:AX)(j:Nat)(s:Int)(l:Au)(n:Nat)(Q:Bz):Bu XD (As (cD m)) [(22,au 23 j)] Bp [20,22,23] 22 Q 300 (st Bp [Al 20,int s,Aq 21 n] (hp [Uv 22 L.length,.vec kB l true,.vec [.tok] (ED 23 L.length) false,MH L]))=
 xH L 23 s j m (fun e=>Q (int e) (VG 22 23 L.length (E1 L))) (n<=l.length/\bif decide ((n:Int) > m.size - m.b.length)then(Gb (.EW m) (E1 L) ((E1 L).set j none) j/\Q (int 4) (VG 22 23 L.length ((E1 L).set j (some (.EW m)))))else
  (Gb (.EW (Ea m (l.take n))) (E1 L) ((E1 L).set j none) j/\Q (int 0) (VG 22 23 L.length ((E1 L).set j (some (.EW (Ea m (l.take n)))))))):=by kernel_rfl
theorem OE(L:List AX)(m:AX)(j:Nat)(s o k:Int)(Q:Bz):Bu XD (As (cD m)) [(21,au 22 j)] CJ [20,21,22] 21 Q 300 (st CJ [Al 20,int s,int o,int k] (qz L))=
 xH L 22 s j m (fun e=>Q (.tuple ⟨[.slice none 0 0,int e]⟩) (VG 21 22 L.length (E1 L))) (bif On m o k then(Gb (.EW m) (E1 L) ((E1 L).set j none) j/\Q (.tuple ⟨[.slice none 0 0,int 3]⟩) (VG 21 22 L.length ((E1 L).set j (some (.EW m)))))else
  (Gb (.EW m) (E1 L) ((E1 L).set j none) j/\Q (.tuple ⟨[Aq 27 (Xa m o k).length,int 0]⟩) (VG 21 22 L.length ((E1 L).set j (some (.EW m)))++[some (.vec kB (Xa m o k) false)]))):=by kernel_rfl
theorem PH{L:List AX}{j:Nat}{m:AX}(h:L[j]? = some m):L.set j m=L:=by
 obtain⟨h1,h2⟩:=List.getElem?_eq_some_iff.1 h;rw[<-h2,AB1]
def Tn:Gz:=fun p rest os=>match p,rest,os with
 | .Bt L,[.int .i64 s,.slice (some ⟨21,0,some 0⟩) n 18446744073709551616],[.vec [.int .u8] l _]=> .ask (n<=l.length) (.test (BR L s) (.ret ⟨int 3,.Bt L,[]⟩)
  (.test (decide ((n:Int) > (L.getD s.toNat i0).size - (L.getD s.toNat i0).b.length)) (.ret ⟨int 4,.Bt L,[]⟩) (.ret ⟨int 0,.Bt (L.set s.toNat (Ea (L.getD s.toNat i0) (l.take n))),[]⟩)))
 | _,_,_=> .fail
theorem eI:CH Tryz.prog AG Bp (Ab AG 20 [true] (Cl 20 Tn)):=by
 refine Dq (yV i0).all (by kernel_rfl) (by kernel_rfl) (n:=A5 Bp) (by kernel_rfl) (fun _=>rfl) fun p rest os=>?_
 unfold Tn;split
 .rename_i L s n l ro;intro hn;have fin:∀{m:AX}{L':List AX}{e:Int},L'.length=L.length->0 < L.length/\L.length<=34->Bu XD (As (cD m)) [(22,au 23 s.toNat)] Bp [20,22,23] 22 (fun w os=>w=int e/\os=VG 22 23 L.length (E1 L')) 300 (st Bp [Al 20,int s,Aq 21 n] (hp [Uv 22 L.length,.vec kB l true,.vec [.tok] (ED 23 L.length) false,MH L]))->
   AZ XD 22 (fun b=>20<=b/\b < 22) Bp (Told (fun b=>20<=b/\b < 22) fun v H=>HM AG 20 2 (.Bt L') (int e) [] v H) (st Bp [Al 20,int s,Aq 21 n] (hp [Uv 22 L.length,.vec kB l true,.vec [.tok] (ED 23 L.length) false,MH L])):=by
   intro m L' e hl h0 hq;refine AZ.mono (Aa.FG (Av (kE m) (by kernel_rfl) hq)) fun w H ⟨e1,hq⟩=>?_
   subst e1;obtain⟨g0,g1,g2,_⟩:=Nk (t:=[]) (t2:=[]) (by rw[ABq];exact hq);exact .here (P6 (r:=22) (a:=23) (by rw[hl];exact h0.1) (by rw[hl];exact h0.2) ⟨by decide,by rw[hl];exact g0,by rw[hl];exact g1,g2⟩ rfl)
  refine .test (fun hc=>?_) fun hc=> .test (fun hb=>?_) fun hb=>?_
  all_goals
   refine⟨VC (by kernel_rfl),fun objs hr=>?_⟩;obtain⟨h0,h2⟩:=U7 L (.vec kB l true) objs hr;refine⟨_,h2,?_⟩
  .refine fin (m:=i0) rfl h0 ?_;rw[QU];exact Ua h0.1 (RO hc) ⟨rfl,rfl⟩
  all_goals
   obtain⟨k1,k2,k3⟩:=WU hc
   change L[s.toNat]? = some (L.getD s.toNat i0)at k3
   generalize L.getD s.toNat i0=m at k3 hb ⊢
  .refine fin (m:=m) rfl h0 ?_;rw[QU];exact RS k1 k2 k3 ⟨hn,AD hb ⟨⟨rfl,rfl⟩,rfl,by rw[K0,PH k3]⟩⟩
  .refine fin (m:=m) (AAk ..) h0 ?_;rw[QU];exact RS k1 k2 k3 ⟨hn,AK hb ⟨⟨rfl,rfl⟩,rfl,by rw[K0]⟩⟩
 .trivial
def PY:Gz:=fun p rest os=>match p,rest,os with
 | .Bt L,[.int .i64 s,.int .i64 o,.int .i64 k],[]=> .test (BR L s||On (L.getD s.toNat i0) o k) (.ret ⟨.tuple ⟨[.slice none 0 0,int 3]⟩,.Bt L,[]⟩) (.ret ⟨.tuple ⟨[Aq 21 (Xa (L.getD s.toNat i0) o k).length,int 0]⟩,.Bt L,[.vec kB (Xa (L.getD s.toNat i0) o k) false]⟩)
 | _,_,_=> .fail
theorem Xj:CH Tryz.prog AG CJ (Ab AG 20 [true] (Cl 20 PY)):=by
 refine Dq (yV i0).all (by kernel_rfl) (by kernel_rfl) (n:=A5 CJ) (by kernel_rfl) (fun _=>rfl) fun p rest os=>?_
 unfold PY;split
 .rename_i L s o k;refine .test (fun hc=>?_) fun hc=>?_
  all_goals
   refine⟨VC (by kernel_rfl),fun objs hr=>?_⟩;obtain⟨h0,h2⟩:=Th L objs hr;refine⟨_,h2,?_⟩
  .have hq:∃m,Bu XD (As (cD m)) [(21,au 22 s.toNat)] CJ [20,21,22] 21 (fun w os=>w= .tuple ⟨[.slice none 0 0,int 3]⟩/\os=VG 21 22 L.length (E1 L)) 300 (st CJ [Al 20,int s,int o,int k] (qz L)):=by
    cases hb:BR L s
    .obtain⟨k1,k2,k3⟩:=WU hb
     change L[s.toNat]? = some (L.getD s.toNat i0)at k3
     rw[hb,ABw]at hc;refine⟨L.getD s.toNat i0,?_⟩;rw[OE];exact RS k1 k2 k3 (AD hc ⟨⟨rfl,rfl⟩,rfl,by rw[K0,PH k3]⟩)
    .refine⟨i0,?_⟩;rw[OE];exact Ua h0.1 (RO hb) ⟨rfl,rfl⟩
   obtain⟨m,hq⟩:=hq;refine AZ.mono (Aa.FG (Av (kE m) (by kernel_rfl) hq)) fun w H ⟨e1,hq⟩=>?_
   subst e1;obtain⟨g0,g1,g2,_⟩:=Nk (t:=[]) (t2:=[]) (by rw[ABq];exact hq);exact .here (P6 (r:=21) (a:=22) h0.1 h0.2 ⟨by decide,g0,g1,g2⟩ rfl)
  .simp only[ABk]at hc;obtain⟨k1,k2,k3⟩:=WU hc.1
   change L[s.toNat]? = some (L.getD s.toNat i0)at k3
   have hr:=hc.2;generalize L.getD s.toNat i0=m at k3 hr ⊢;have hq:Bu XD (As (cD m)) [(21,au 22 s.toNat)] CJ [20,21,22] 21 (fun w os=>w= .tuple ⟨[Aq 27 (Xa m o k).length,int 0]⟩/\os=VG 21 22 L.length (E1 L)++[some (.vec kB (Xa m o k) false)]) 300 (st CJ [Al 20,int s,int o,int k] (qz L)):=by
    rw[OE];exact RS k1 k2 k3 (AK hr ⟨⟨rfl,rfl⟩,rfl,by rw[K0,PH k3]⟩)
   refine AZ.mono (Aa.FG (Av (kE m) (by kernel_rfl) hq)) fun w H ⟨e1,hq⟩=>?_
   subst e1;obtain⟨g0,g1,g2,g3⟩:=Nk (t:=[H.get 27]) (t2:=[some (.vec kB (Xa m o k) false)]) hq;obtain⟨objs',q1,q2,q3,q4,q5,q6⟩:=Pv (b0:=20) (r:=21) (a:=22) (H:=H) h0.1 h0.2 ⟨by decide,g0,g1,g2⟩;simp only[AAd,ABF]at g3;exact .here (Sh _ [27] q1 rfl q2 q3 q4 q5 q6 (by simp) (fun b hb=>by rw[AAg]at hb;rw[hb];decide) rfl ⟨⟨_,rfl,g3⟩,trivial⟩)
 .trivial
theorem LB{laid:DD}{N:Nat}{muts:List Bool}{G G':AL->Ay->GT}(h:∀a o x,(G' a o).run=some x->(G a o).run=some x){args:AL}{H:AA}{r:Value × AA}(hF:Ab laid N muts G' args H=some r):Ab laid N muts G args H=some r:=by
 unfold Ab at hF ⊢;split at hF
 .rename_i argsc objs h1 h2;cases hm:I0 muts H 0 (DE H N 200 (args.flatMap (Am 4)) [])
  .simp only[hm,AAR]at hF;cases hF
  .simp only[hm,AAO]at hF ⊢;split at hF
   .rename_i x hx;rw[h _ _ _ hx];exact hF
   .cases hF
 .cases hF
def J4(t' t:PT):Prop:=∀y,t'.gt.run=some y->t.gt.run=some y
theorem Ct.ref{f:FuncId}{q q':Gz}{l:List Gc}(h:CH Tryz.prog AG f (Ab AG 20 [true] (Cl 20 q)))(hq:∀s rest os,J4 (q' s rest os) (q s rest os))(t:Ct l):Ct ((f,Ab AG 20 [true] (Cl 20 q),De AG 20 [true] (Cl 20 q'))::l):=by
 refine .other h (fun X g hX args H K hk=>?_) t;have hctx:(⟨X.P,X.laid,fun _=>some (Ab AG 20 [true] (Cl 20 q')),X.BP⟩:Ctx).Hp g=some (Ab AG 20 [true] (Cl 20 q')):=rfl;obtain⟨v,H',h1,h2⟩:=Gh hctx hk;refine⟨v,H',?_,h2⟩;unfold B3 at h1 ⊢;simp only[hX]at h1 ⊢;refine LB (fun a o x hx=>?_) h1;unfold Cl at hx ⊢;split at hx
 .rename_i b rest s ro os;cases hb:Nat.beq b 20
  .simp only[hb,AAR]at hx;cases hx
  .simp only[hb,AAO]at hx ⊢;exact hq _ _ _ _ hx
 .cases hx
theorem K9{t:PT}:J4 .fail t:=fun y h=>by cases h
theorem Mp{p:Prop}{a t:PT}(h:p->J4 a t):J4 (.ask p a) t:=fun y hy=>by
 simp only[PT.gt,GT.run]at hy;split at hy
 .rename_i hp;exact h hp y hy
 .cases hy
theorem eO{p:Prop}{a t:PT}(hp:p)(h:J4 t a):J4 t (.ask p a):=fun y hy=>by
 simp only[PT.gt,GT.run];rw[AAZ hp];exact h y hy
theorem ZW{c:Bool}{a b t:PT}(hc:c=true)(h:J4 t a):J4 t (.test c a b):=fun y hy=>by
 simp only[PT.gt,GT.run,hc,AAO];exact h y hy
theorem IV{c:Bool}{a b t:PT}(hc:c=false)(h:J4 t b):J4 t (.test c a b):=fun y hy=>by
 simp only[PT.gt,GT.run,hc,AAR];exact h y hy
theorem bX{c:Bool}{a b t:PT}(h1:c=true->J4 a t)(h2:c=false->J4 b t):J4 (.test c a b) t:=fun y hy=>by
 cases c
 .exact h2 rfl y hy
 .exact h1 rfl y hy
theorem JX{t:PT}:J4 t t:=fun _ h=>h
def lI(v:AX->Value):Gz:=fun p rest os=>match p,rest,os with
 | .Bt L,[.int .i64 s],[]=> .ask (BR L s=false) (.ret ⟨v (L.getD s.toNat i0),.Bt L,[]⟩)
 | _,_,_=> .fail
theorem TX(bad:Value)(v:AX->Value):∀s rest os,J4 (lI v s rest os) (eu bad v id s rest os):=by
 intro s rest os;unfold lI;split
 .rename_i L s;refine Mp fun h=>IV h ?_
  have e:L.set s.toNat (id (L.getD s.toNat i0))=L:=PH (WU h).2.2;have e2:L.set s.toNat (id (L.getD s.toNat ⟨0,0,[]⟩))=L:=e;rw[e2];exact JX
 .exact K9
def doP(g:AX->AX):Gz:=fun p rest os=>match p,rest,os with
 | .Bt L,[.int .i64 s],[]=> .ask (BR L s=false) (.ret ⟨int 0,.Bt (L.set s.toNat (g (L.getD s.toNat i0))),[]⟩)
 | _,_,_=> .fail
theorem uB(bad:Value)(g:AX->AX):∀s rest os,J4 (doP g s rest os) (eu bad (fun _=>int 0) g s rest os):=by
 intro s rest os;unfold doP;split
 .exact Mp fun h=>IV h JX
 .exact K9
def tN:Gz:=fun p rest os=>match p,rest,os with
 | .Bt L,[.int .i64 s,.slice (some ⟨21,0,some 0⟩) n 18446744073709551616],[.vec [.int .u8] l _]=> .ask (n<=l.length/\BR L s=false/\(n:Int)<=(L.getD s.toNat i0).size - (L.getD s.toNat i0).b.length) (.ret ⟨int 0,.Bt (L.set s.toNat (Ea (L.getD s.toNat i0) (l.take n))),[]⟩)
 | _,_,_=> .fail
theorem oM:∀s rest os,J4 (tN s rest os) (Tn s rest os):=by
 intro s rest os;unfold tN;split
 .exact Mp fun h=>eO h.1 (IV h.2.1 (IV (AAb (by omega)) JX))
 .exact K9
def fT:Gz:=fun p rest os=>match p,rest,os with
 | .Bt L,[.int .i64 s,.int .i64 o,.int .i64 k],[]=> .ask (BR L s=false) (.test (On (L.getD s.toNat i0) o k) (.ret ⟨.tuple ⟨[.slice none 0 0,int 3]⟩,.Bt L,[]⟩) (.ret ⟨.tuple ⟨[Aq 21 (Xa (L.getD s.toNat i0) o k).length,int 0]⟩,.Bt L,[.vec kB (Xa (L.getD s.toNat i0) o k) false]⟩))
 | _,_,_=> .fail
theorem lE:∀s rest os,J4 (fT s rest os) (PY s rest os):=by
 intro s rest os;unfold fT;split
 .refine Mp fun h=>bX (fun hc=>ZW (by rw[h,hc];rfl) JX) fun hc=>IV (by rw[h,hc];rfl) JX
 .exact K9
def eK(f:FuncId)(q q':Gz):Gc:=(f,Ab AG 20 [true] (Cl 20 q),De AG 20 [true] (Cl 20 q'))
def cV:List Gc:=[eK Bp Tn tN,eK JR (eu (int 3) (fun _=>int 0) DP) (doP DP),eK CJ PY fT,
 eK Jx (eu (Cf 0 3) (fun m=>Cf m.b.length 0) id) (lI fun m=>Cf m.b.length 0),eK He (eu (Cf 0 3) (fun m=>Cf m.HT 0) id) (lI fun m=>Cf m.HT 0),eK I5 (eu (Cf 0 3) (fun m=>Cf (m.size - m.b.length) 0) id) (lI fun m=>Cf (m.size - m.b.length) 0),
 EX A2 [true] (Cl 20 crQ),EX BO [true] (Cl 20 kv),EX BD [true] (Cl 20 fp),EX BV [true] (Cl 20 tG)]
theorem okV:Ct cV:= .ref eI oM (.ref Yo (uB _ _) (.ref Xj lE (.ref c8 (TX _ _) (.ref br (TX _ _) (.ref Ye (TX _ _) (.cons Vi (.cons jg (.cons iB (.cons o6 .nil)))))))))
abbrev XV:Ctx:=BY Tryz.prog AG (C8 cV)
def PO(a b:Nat)(s o:Int)(dn:Bool):AJ:= .cells [Al a,Al b,int s,int o,.bool dn] 0 false
def Kz(s:Pk):AJ:= .abs (.pack s) false
def ot(L:List AX)(q:Option BG)(s o:Int)(dn:Bool):AA:=hp [PO 21 22 s o dn,Kz (.Bt L),Kz (.timer q)]
def yX(l:Au)(L:List AX)(q:Option BG)(s o:Int)(dn:Bool):AA:=hp [PO 22 23 s o dn,.vec kB l true,Kz (.Bt L),Kz (.timer q)]
theorem dH(L:List AX)(p:BG)(s o:Int)(dn:Bool)(i:Int)(l:Au)(n:Nat)(Q:Bz):Bu XV (As cV) [] Bw [20,22,23] 22 Q 400 (st Bw [Al 20,int i,Aq 21 n] (yX l L (some p) s o dn))=(
 let k:=int (IntKind.wrap .i64 (o+1));let j:=BG.Ao p;let e:AJ:= .abs (CR.pack (Pk.Bt L)) false;let d:AJ:= .abs (CR.pack (Pk.timer (some p))) false;let c:=List.getD L i.toNat i0;let h:=((AX.b c).length:Int);let g:=List.set L i.toNat (Ea c (List.take n l));let f:=n<=l.length/\BR L i=false/\(n:Int)<=AX.size c - h;let a:AJ:= .cells [(Al 22),(Al 23),(int s),(int o),(.bool dn)] 0 false;let m:Prop:=Q (int 3) [some a,some e,some d];(bif decide (s > 0)then(bif dn then(Q (int 13) [some a,some e,some d])else(bif decide (i < 0)then m else(bif decide (i>=IntKind.wrap .i64 (s+2))then m else((Bool.rec (decide (i>=(L.length:Int))) true (decide (i < 0)))=(false))/\(((int 0):Value)=(int 0))/\(bif decide (Int.ofNat n > AX.size c - h)then(Q (int 4) [some a,some (.abs (CR.pack (PL.nx { v:=Cf (AX.size c - h) 0,nx:=Pk.Bt L,news:=[] })) false),some d])else(bif decide (1 < BG.at_ p)then f/\(Q (int 0) [some (.cells [(Al 22),(Al 23),(int s),k,(.bool dn)] 0 false),some (.abs (CR.pack (PL.nx { v:=int 0,nx:=Pk.Bt g,news:=[] })) false),some (.abs (CR.pack (PL.nx { v:=Value.bool false,nx:=Pk.timer (some { at_:=BG.at_ p - 1,done:=BG.done p,Ao:=BG.Ao p }),news:=[] })) false)])else f/\(j.length=j.length/\KP j)/\(Q (int 13) [some (.cells [(Al 22),(Al 23),(int s),k,(.bool true)] 0 false),some (.abs (CR.pack (PL.nx { v:=int 0,nx:=Pk.Bt (Fg j g g.length),news:=[] })) false),some (.abs (CR.pack (PL.nx { v:=Value.bool true,nx:=Pk.timer none,news:=[] })) false)]))))))else(Q (int 1) [some a,some e,some d]))):=by kernel_rfl
theorem kz(L:List AX)(q:Option BG)(s o:Int)(dn:Bool)(i:Int)(Q:Bz):Bu XV (As cV) [] DB [20,21,22] 21 Q 400 (st DB [Al 20,int i] (ot L q s o dn))=(
 let g:=List.getD L i.toNat i0;let e:=(Bool.rec (decide (i>=(L.length:Int))) true (decide (i < 0)))=(false);let d:AJ:= .abs (CR.pack (Pk.Bt L)) false;let c:AJ:= .abs (CR.pack (Pk.timer q)) false;let a:AJ:= .cells [(Al 21),(Al 22),(int s),(int o),(.bool dn)] 0 false;let f:Prop:=Q (.tuple ⟨[(int 0),(int 3)]⟩) [some a,some d,some c];(bif decide (s > 0)then(bif dn then(Q (.tuple ⟨[(int 0),(int 13)]⟩) [some a,some d,some c])else(bif decide (i < 0)then f else(bif decide (i>=IntKind.wrap .i64 (s+2))then f else e/\e/\(Q (.tuple ⟨[(int (IntKind.wrap .i64 (((AX.b g).length:Int) - AX.HT g))),(int 0)]⟩) [some a,some (.abs (CR.pack (PL.nx { v:=Cf (AX.HT g) 0,nx:=Pk.Bt L,news:=[] })) false),some c]))))else(Q (.tuple ⟨[(int 0),(int 1)]⟩) [some a,some d,some c]))):=by kernel_rfl
theorem fU(L:List AX)(q:Option BG)(s o:Int)(dn:Bool)(a:Int)(d:Bool)(l:Au)(n:Nat)(Q:Bz):Bu XV (As cV) [] ES [20,22,23] 22 Q 400 (st ES [Al 20,mj a d 21 n] (hp [PO 22 23 s o dn,.vec kI l true,Kz (.Bt L),Kz (.timer q)]))=(
 let k:=n=l.length/\KP l;let h:AJ:= .cells [(Al 22),(Al 23),(int s),(int o),(.bool true)] 0 false;let g:AJ:= .abs (CR.pack (PL.nx { v:=int 0,nx:=Pk.Bt (Fg l L L.length),news:=[] })) false;let f:AJ:= .abs (CR.pack (PL.nx { v:=int 0,nx:=Pk.timer none,news:=[] })) false;let e:AJ:= .abs (CR.pack (Pk.Bt L)) false;let c:AJ:= .abs (CR.pack (PL.nx { v:=int 0,nx:=Pk.timer (some { at_:=a,done:=d,Ao:=l }),news:=[] })) false;let b:AJ:= .cells [(Al 22),(Al 23),(int s),(int o),(.bool dn)] 0 false;let j:Prop:=Q (int 0) [some b,some e,some f];let i:Prop:=Q (int 0) [some b,some e,some c];(bif decide (s > 0)then(n=l.length/\n < 1000)/\(bif Ff a l then(bif decide (0 < a)then(bif a==0 then(bif dn then i else k/\(Q (int 0) [some h,some g,some c]))else i)else(bif a==0 then(bif dn then j else k/\(Q (int 0) [some h,some g,some f]))else j))else(Q (int 2) [some b,some e,some (.abs (CR.pack (PL.nx { v:=int 2,nx:=Pk.timer q,news:=[] })) false)]))else(Q (int 1) [some b,some e,some (.abs (CR.pack (Pk.timer q)) false)]))):=by kernel_rfl
theorem bU(L:List AX)(s o:Int)(dn:Bool)(i:Int)(l:Au)(n:Nat)(Q:Bz):Bu XV (As cV) [] Bw [20,22,23] 22 Q 400 (st Bw [Al 20,int i,Aq 21 n] (yX l L none s o dn))=(
 let e:AJ:= .abs (CR.pack (Pk.Bt L)) false;let d:=List.getD L i.toNat i0;let f:=((AX.b d).length:Int);let c:AJ:= .abs (CR.pack (Pk.timer none)) false;let a:AJ:= .cells [(Al 22),(Al 23),(int s),(int o),(.bool dn)] 0 false;let g:Prop:=Q (int 3) [some a,some e,some c];(bif decide (s > 0)then(bif dn then(Q (int 13) [some a,some e,some c])else(bif decide (i < 0)then g else(bif decide (i>=IntKind.wrap .i64 (s+2))then g else((Bool.rec (decide (i>=(L.length:Int))) true (decide (i < 0)))=(false))/\(((int 0):Value)=(int 0))/\(bif decide (Int.ofNat n > AX.size d - f)then(Q (int 4) [some a,some (.abs (CR.pack (PL.nx { v:=Cf (AX.size d - f) 0,nx:=Pk.Bt L,news:=[] })) false),some c])else(n<=l.length/\BR L i=false/\(n:Int)<=AX.size d - f)/\(Q (int 0) [some (.cells [(Al 22),(Al 23),(int s),(int (IntKind.wrap .i64 (o+1))),(.bool dn)] 0 false),some (.abs (CR.pack (PL.nx { v:=int 0,nx:=Pk.Bt (List.set L i.toNat (Ea d (List.take n l))),news:=[] })) false),some (.abs (CR.pack (PL.nx { v:=Value.bool false,nx:=Pk.timer none,news:=[] })) false)])))))else(Q (int 1) [some a,some e,some c]))):=by kernel_rfl
theorem Yx(L:List AX)(s o:Int)(dn:Bool)(i:Int)(Q:Bz):Bu XV (As cV) [] CX [20,21,22] 21 Q 400 (st CX [Al 20,int i] (ot L none s o dn))=(
 let c:AJ:= .abs (CR.pack (Pk.Bt L)) false;let b:AJ:= .abs (CR.pack (Pk.timer none)) false;let a:AJ:= .cells [(Al 21),(Al 22),(int s),(int o),(.bool dn)] 0 false;let d:Prop:=Q (int 3) [some a,some c,some b];(bif decide (s > 0)then(bif dn then(Q (int 13) [some a,some c,some b])else(bif decide (i < 0)then d else(bif decide (i>=IntKind.wrap .i64 (s+2))then d else((Bool.rec (decide (i>=(L.length:Int))) true (decide (i < 0)))=(false))/\(Q (int 0) [some (.cells [(Al 21),(Al 22),(int s),(int (IntKind.wrap .i64 (o+1))),(.bool dn)] 0 false),some (.abs (CR.pack (PL.nx { v:=int 0,nx:=Pk.Bt (List.set L i.toNat (DP (List.getD L i.toNat i0))),news:=[] })) false),some (.abs (CR.pack (PL.nx { v:=Value.bool false,nx:=Pk.timer none,news:=[] })) false)]))))else(Q (int 1) [some a,some c,some b]))):=by kernel_rfl
theorem Y9(L:List AX)(p:BG)(s o:Int)(dn:Bool)(i:Int)(Q:Bz):Bu XV (As cV) [] CX [20,21,22] 21 Q 400 (st CX [Al 20,int i] (ot L (some p) s o dn))=(
 let e:=int (IntKind.wrap .i64 (o+1));let d:=BG.Ao p;let c:AJ:= .abs (CR.pack (Pk.Bt L)) false;let b:AJ:= .abs (CR.pack (Pk.timer (some p))) false;let a:AJ:= .cells [(Al 21),(Al 22),(int s),(int o),(.bool dn)] 0 false;let f:Prop:=Q (int 3) [some a,some c,some b];(bif decide (s > 0)then(bif dn then(Q (int 13) [some a,some c,some b])else(bif decide (i < 0)then f else(bif decide (i>=IntKind.wrap .i64 (s+2))then f else(bif decide (1 < BG.at_ p)then((Bool.rec (decide (i>=(L.length:Int))) true (decide (i < 0)))=(false))/\(Q (int 0) [some (.cells [(Al 21),(Al 22),(int s),e,(.bool dn)] 0 false),some (.abs (CR.pack (PL.nx { v:=int 0,nx:=Pk.Bt (List.set L i.toNat (DP (List.getD L i.toNat i0))),news:=[] })) false),some (.abs (CR.pack (PL.nx { v:=Value.bool false,nx:=Pk.timer (some { at_:=BG.at_ p - 1,done:=BG.done p,Ao:=BG.Ao p }),news:=[] })) false)])else(d.length=d.length/\KP d)/\(Q (int 13) [some (.cells [(Al 21),(Al 22),(int s),e,(.bool true)] 0 false),some (.abs (CR.pack (PL.nx { v:=int 0,nx:=Pk.Bt (Fg d L L.length),news:=[] })) false),some (.abs (CR.pack (PL.nx { v:=Value.bool true,nx:=Pk.timer none,news:=[] })) false)])))))else(Q (int 1) [some a,some c,some b]))):=by kernel_rfl
theorem iO(L:List AX)(q:Option BG)(s o:Int)(dn:Bool)(i:Int)(Q:Bz):Bu XV (As cV) [] DG [20,21,22] 21 Q 400 (st DG [Al 20,int i] (ot L q s o dn))=(
 let f:=((AX.b (List.getD L i.toNat i0)).length:Int);let d:AJ:= .abs (CR.pack (Pk.Bt L)) false;let c:AJ:= .abs (CR.pack (Pk.timer q)) false;let a:AJ:= .cells [(Al 21),(Al 22),(int s),(int o),(.bool dn)] 0 false;let e:Prop:=Q (.tuple ⟨[(int 0),(int 3)]⟩) [some a,some d,some c];(bif decide (s > 0)then(bif dn then(Q (.tuple ⟨[(int 0),(int 13)]⟩) [some a,some d,some c])else(bif decide (i < 0)then e else(bif decide (i>=IntKind.wrap .i64 (s+2))then e else((Bool.rec (decide (i>=(L.length:Int))) true (decide (i < 0)))=(false))/\(Q (.tuple ⟨[(int f),(int 0)]⟩) [some a,some (.abs (CR.pack (PL.nx { v:=Cf f 0,nx:=Pk.Bt L,news:=[] })) false),some c]))))else(Q (.tuple ⟨[(int 0),(int 1)]⟩) [some a,some d,some c]))):=by kernel_rfl
theorem dz(L:List AX)(q:Option BG)(s o:Int)(dn:Bool)(Q:Bz):Bu XV (As cV) [] DV [20,21,22] 21 Q 400 (st DV [Al 20] (ot L q s o dn))=(
 let d:AJ:= .abs (CR.pack (Pk.Bt L)) false;let c:AJ:= .abs (CR.pack (Pk.timer q)) false;let b:AJ:= .cells [(Al 21),(Al 22),(int s),(int o),(.bool dn)] 0 false;let a:Prop:=Q (.bool false) [some b,some d,some c];(bif decide (s > 0)then(bif dn then(Q (.bool true) [some b,some d,some c])else a)else a)):=by kernel_rfl
theorem gC(L:List AX)(q:Option BG)(s o:Int)(dn:Bool)(Q:Bz):Bu XV (As cV) [] FV [20,21,22] 21 Q 400 (st FV [Al 20] (ot L q s o dn))=(
 let c:AJ:= .abs (CR.pack (Pk.Bt L)) false;let b:AJ:= .abs (CR.pack (Pk.timer q)) false;let a:AJ:= .cells [(Al 21),(Al 22),(int s),(int o),(.bool dn)] 0 false;(bif decide (s > 0)then(Q (int o) [some a,some c,some b])else(Q (int 0) [some a,some c,some b]))):=by kernel_rfl
theorem ZS(L:List AX)(q:Option BG)(s o:Int)(dn:Bool)(Q:Bz):Bu XV (As cV) [] DI [20,21,22] 21 Q 400 (st DI [Al 20] (ot L q s o dn))=(
 let c:AJ:= .abs (CR.pack (Pk.Bt L)) false;let b:AJ:= .abs (CR.pack (Pk.timer q)) false;let a:AJ:= .cells [(Al 21),(Al 22),(int s),(int o),(.bool dn)] 0 false;(bif decide (s > 0)then(Q (int s) [some a,some c,some b])else(Q (int 0) [some a,some c,some b]))):=by kernel_rfl
def Ma(o:Int):Int:=IntKind.wrap .i64 (o+1)
def P9(d:A4)(i:Int):Int:=bif d.down then 13 else bif BR d.BI i then 3 else 0
def Ry(d:A4)(g:List AX->List AX)(dn:BG->Bool):Int × A4:=
 match d.BP with
 | none=>(0,⟨g d.BI,none,d.AO,Ma d.ops,d.down⟩)
 | some p=>bif decide (1 < p.at_)then(0,⟨g d.BI,some ⟨p.at_ - 1,p.done,p.Ao⟩,d.AO,Ma d.ops,d.down⟩)
  else(13,⟨bif dn p then Fg p.Ao (g d.BI) (g d.BI).length else Fg p.Ao d.BI d.BI.length,none,d.AO,Ma d.ops,true⟩)
def Ee(g:AX->AX)(i:Int)(L:List AX):List AX:=L.set i.toNat (g (L.getD i.toNat i0))
def Pl(d:A4)(i:Int)(g:AX->AX)(dn:BG->Bool):Int × A4:=
 bif d.down then(13,d)else bif BR d.BI i then(3,d)else Ry d (Ee g i) dn
def Bq(d:A4)(i:Int):Int:=(d.BI.getD i.toNat i0).size - (d.BI.getD i.toNat i0).b.length
def Fc(d:A4)(i:Int)(l:Au):Int × A4:=
 bif d.down then(13,d)else bif BR d.BI i then(3,d)else bif decide ((l.length:Int) > Bq d i)then(4,d)else Ry d (Ee (fun m=>Ea m l) i) fun _=>true
theorem Hs(g:AX->AX)(i:Int)(L:List AX):(Ee g i L).length=L.length:=by unfold Ee;rw[AAk]
theorem Zq{d:A4}(h:Fp d){g:List AX->List AX}(hg:∀L,(g L).length=L.length)(dn:BG->Bool):Fp (Ry d g dn).2:=by
 obtain⟨h0,h1,h2,h3⟩:=h;unfold Ry;split
 .exact⟨h0,h1,by show((g d.BI).length:Int)=_;rw[hg];exact h2,fun p hp=>by cases hp⟩
 .rename_i p hp;obtain⟨a0,a1,k0,k1,k2⟩:=h3 p hp;cases hc:decide (1 < p.at_)
  .cases dn p
   .exact⟨h0,h1,by show((Fg p.Ao d.BI d.BI.length).length:Int)=_;rw[Fw];exact h2,fun p hp=>by cases hp⟩
   .exact⟨h0,h1,by show((Fg p.Ao (g d.BI) (g d.BI).length).length:Int)=_;rw[Fw,hg];exact h2,fun p hp=>by cases hp⟩
  .have hc:=ABU hc;exact⟨h0,h1,by show((g d.BI).length:Int)=_;rw[hg];exact h2,fun p' hp'=>by
    injection hp' with e;subst e
    exact⟨by show 0 < p.at_ - 1;omega,by show p.at_ - 1<=1000000;omega,k0,k1,k2⟩⟩
theorem pn{d:A4}(h:Fp d)(i:Int)(g:AX->AX)(dn:BG->Bool):Fp (Pl d i g dn).2:=by
 unfold Pl;cases d.down
 .cases BR d.BI i
  .exact Zq h (Hs g i) dn
  .exact h
 .exact h
theorem jj{d:A4}(h:Fp d)(i:Int)(l:Au):Fp (Fc d i l).2:=by
 unfold Fc;cases d.down
 .cases BR d.BI i
  .cases decide ((l.length:Int) > Bq d i)
   .exact Zq h (Hs _ i) _
   .exact h
  .exact h
 .exact h
def jF(d:A4):AA:=ot d.BI d.BP d.AO d.ops d.down
def oa(a b:Nat)(d:A4):J9:=[some (PO a b d.AO d.ops d.down),some (Kz (.Bt d.BI)),some (Kz (.timer d.BP))]
theorem Um{ρ:Ren}{a b:Nat}(ha:ρ 1=some a)(hb:ρ 2=some b)(s o:Int)(dn:Bool):BF ρ (.cells [.pointer (some ⟨1,0,none⟩),.pointer (some ⟨2,0,none⟩),.int .i64 s,.int .i64 o,.bool dn] 0 false)=some (PO a b s o dn):=by
 have e1:EI ρ (.pointer (some ⟨1,0,none⟩))=some (Al a):=by
  show(Jq ρ ⟨1,_,_⟩).map (fun a=>Value.pointer (some a))=_;simp only[Jq,ha];rfl
 have e2:EI ρ (.pointer (some ⟨2,0,none⟩))=some (Al b):=by
  show(Jq ρ ⟨2,_,_⟩).map (fun a=>Value.pointer (some a))=_;simp only[Jq,hb];rfl
 show(DZ (EI ρ) _).map _=_;simp only[DZ,e1,e2];rfl
theorem Mi(d:A4)(objs:Ay)(hr:Bh (.dev d) objs):Fp d/\EU (DT ⟨.leaf,20⟩ [.abs (.pack (.dev d)) false]) 20 false objs (jF d) []:=by
 cases hr with
 | dev _ h=>
  refine⟨h,?_⟩;have:=F5 (N:=20) (s:= .dev d) (os:=[]) (o:= .cells [.pointer (some ⟨1,0,none⟩),.pointer (some ⟨2,0,none⟩),.int .i64 d.AO,.int .i64 d.ops,.bool d.down] 0 false) (o1:=PO 21 22 d.AO d.ops d.down) (ps:=[Kz (.Bt d.BI),Kz (.timer d.BP)]) (ps1:=[Kz (.Bt d.BI),Kz (.timer d.BP)]) rfl (Um (by rfl) (by rfl) _ _ _) (two (by rfl) (by rfl));have e:Dv ((DT ⟨.leaf,20⟩ [.abs (.pack (.dev d)) false]).put 20 (PO 21 22 d.AO d.ops d.down)) [Kz (.Bt d.BI),Kz (.timer d.BP)]=jF d:=by kernel_rfl
  rw[e]at this;exact this
theorem Wb(d:A4)(o:AJ)(objs:Ay)(hr:Bh (.dev d) objs):Fp d/\EU (DT ⟨.leaf,20⟩ [.abs (.pack (.dev d)) false,o]) 20 false objs (hp [PO 22 23 d.AO d.ops d.down,o,Kz (.Bt d.BI),Kz (.timer d.BP)]) []:=by
 cases hr with
 | dev _ h=>
  refine⟨h,?_⟩;have:=F5 (N:=20) (s:= .dev d) (os:=[o]) (o:= .cells [.pointer (some ⟨1,0,none⟩),.pointer (some ⟨2,0,none⟩),.int .i64 d.AO,.int .i64 d.ops,.bool d.down] 0 false) (o1:=PO 22 23 d.AO d.ops d.down) (ps:=[Kz (.Bt d.BI),Kz (.timer d.BP)]) (ps1:=[Kz (.Bt d.BI),Kz (.timer d.BP)]) rfl (Um (by rfl) (by rfl) _ _ _) (two (by rfl) (by rfl));have e:Dv ((DT ⟨.leaf,20⟩ [.abs (.pack (.dev d)) false,o]).put 20 (PO 22 23 d.AO d.ops d.down)) [Kz (.Bt d.BI),Kz (.timer d.BP)]=hp [PO 22 23 d.AO d.ops d.down,o,Kz (.Bt d.BI),Kz (.timer d.BP)]:=by kernel_rfl
  rw[e]at this;exact this
theorem ew{j a b:Nat}{d:A4}{H:AA}{v:Value}(hd:Fp d)(hn:[20,a,b].Nodup)(h:[H.get 20,H.get a,H.get b]=oa a b d)(hv:C4 6 v=true):HM AG 20 j (.dev d) v [] v H:=by
 simp only[oa,AAd,ABF]at h;obtain⟨g0,g1,g2⟩:=h;have hn':=hn;simp only[ABS,AAw,AA6,ABr,ACc]at hn';obtain⟨⟨n1,n2⟩,n3,-⟩:=hn';refine Sh [20,a,b] [] (.dev d hd) rfl rfl hn (fun x hx=>?_) ⟨⟨_,g0,rfl,rfl,?_⟩,⟨_,g1,rfl,rfl,by rfl⟩,⟨_,g2,rfl,rfl,by rfl⟩,trivial⟩ (fun o T ho=>by cases ho;exact id) AA3 (fun b hb=>by cases hb) (H7 6 v hv) trivial
 .simp only[AAw,AA6,ABr]at hx;rcases hx with rfl | rfl | rfl
  .exact .here (by simp)
  .exact .next (.here (by simp)) g0 (by simp[Ig,Am,Al,PO])
  .exact .next (.here (by simp)) g0 (by simp[Ig,Am,Al,PO])
 .exact Um (by rfl) (by rfl) _ _ _
theorem xY:Hm XV (As cV):=okV.pf
theorem Qe{f:FuncId}{args:AL}{d d':A4}{v:Value}(hd:Fp d')(hv:C4 6 v=true)(hq:Bu XV (As cV) [] f [20,21,22] 21 (fun w os=>w=v/\os=oa 21 22 d') 400 (st f args (jF d))):
 AZ XV 21 (fun b=>20<=b/\b < 21) f (Told (fun b=>20<=b/\b < 21) fun w H=>HM AG 20 1 (.dev d') v [] w H) (st f args (jF d)):=by
 refine AZ.mono (Aa.FG (Av xY (by kernel_rfl) hq)) fun w H ⟨e,hos⟩=>?_
 subst e;simp only[oa,AAn,ABc,ABC,AAd]at hos;obtain⟨g0,g1,g2,_⟩:=hos;exact .here (ew (a:=21) (b:=22) hd (by decide) (by rw[g0,g1,g2];rfl) hv)
theorem Z9{f:FuncId}{args:AL}{d d':A4}{o:AJ}{v:Value}(hd:Fp d')(hv:C4 6 v=true)(hq:Bu XV (As cV) [] f [20,22,23] 22 (fun w os=>w=v/\os=oa 22 23 d') 400 (st f args (hp [PO 22 23 d.AO d.ops d.down,o,Kz (.Bt d.BI),Kz (.timer d.BP)]))):
 AZ XV 22 (fun b=>20<=b/\b < 22) f (Told (fun b=>20<=b/\b < 22) fun w H=>HM AG 20 2 (.dev d') v [] w H) (st f args (hp [PO 22 23 d.AO d.ops d.down,o,Kz (.Bt d.BI),Kz (.timer d.BP)])):=by
 refine AZ.mono (Aa.FG (Av xY (by kernel_rfl) hq)) fun w H ⟨e,hos⟩=>?_
 subst e;simp only[oa,AAn,ABc,ABC,AAd]at hos;obtain⟨g0,g1,g2,_⟩:=hos;exact .here (ew (a:=22) (b:=23) hd (by decide) (by rw[g0,g1,g2];rfl) hv)
theorem MM{L:List AX}{q:Option BG}{s o:Int}{dn:Bool}(hd:Fp ⟨L,q,s,o,dn⟩){i:Int}{A B K E:Prop}(h13:dn=true->A)(h3:dn=false->BR L i=true->B)(hK:dn=false->BR L i=false->K):
 (bif decide (s > 0)then(bif dn then A else(bif decide (i < 0)then B else(bif decide (i>=IntKind.wrap .i64 (s+2))then B else K)))else E):=by
 obtain⟨h0,h1,h2,-⟩:=hd
 change 2<=s at h0
 change s<=32 at h1
 change (L.length:Int)=s+2 at h2
 have hw:IntKind.wrap .i64 (s+2)=s+2:=Rf (by omega) (by omega);refine AD (AAY (by omega)) ?_;cases dn
 .refine AU (fun h=>h3 rfl (by unfold BR;rw[AAY h,Bool.true_or])) fun g1=>AU (fun h=>h3 rfl (by unfold BR;rw[hw]at h;rw[AAY (p:=i>=(L.length:Int)) (by omega),Bool.or_true])) fun g2=>hK rfl ?_
  rw[hw]at g2;unfold BR;rw[AAb g1,AAb (p:=i>=(L.length:Int)) (by omega)];rfl
 .exact h13 rfl
theorem GD{L:List AX}{i:Int}(h:BR L i=false):(Bool.rec (motive:=fun _=>Bool) (decide (i>=((List.length L):Int))) true (decide (i < 0)))=false:=by
 unfold BR at h;cases hc:decide (i < 0)<;>simp only[hc,Bool.true_or,ABw]at h ⊢
 .exact h
 .cases h
theorem aT{L:List AX}{p:BG}{s o:Int}{dn:Bool}(hd:Fp ⟨L,some p,s,o,dn⟩):KP p.Ao:=by
 obtain⟨a0,a1,k0,k1,k2⟩:=hd.BP p rfl;exact⟨k0,k1,fun x hx=>(k2 x hx).1⟩
theorem bJ{d:A4}{i:Int}{g:AX->AX}{dn:BG->Bool}(h:d.down=true):Pl d i g dn=(13,d):=by unfold Pl;rw[h];rfl
theorem Wr{d:A4}{i:Int}{g:AX->AX}{dn:BG->Bool}(h:d.down=false)(h2:BR d.BI i=true):Pl d i g dn=(3,d):=by unfold Pl;rw[h,h2];rfl
theorem PJ{d:A4}{i:Int}{g:AX->AX}{dn:BG->Bool}(h:d.down=false)(h2:BR d.BI i=false):Pl d i g dn=Ry d (Ee g i) dn:=by unfold Pl;rw[h,h2];rfl
def S1(g:AX->AX)(dn:BG->Bool):Gz:=fun p rest os=>match p,rest,os with
 | .dev d,[.int .i64 i],[]=> .ret ⟨int (Pl d i g dn).1,.dev (Pl d i g dn).2,[]⟩
 | _,_,_=> .fail
theorem Sc{L:List AX}{p:BG}{s o:Int}{dn:Bool}{g:List AX->List AX}{f:BG->Bool}(h:1 < p.at_):Ry ⟨L,some p,s,o,dn⟩ g f=(0,⟨g L,some ⟨p.at_ - 1,p.done,p.Ao⟩,s,Ma o,dn⟩):=by
 show(bif decide (1 < p.at_)then _ else _)=_;rw[AAY h];rfl
theorem VV{L:List AX}{p:BG}{s o:Int}{dn:Bool}{g:List AX->List AX}{f:BG->Bool}(h:¬1 < p.at_):Ry ⟨L,some p,s,o,dn⟩ g f=(13,⟨bif f p then Fg p.Ao (g L) (g L).length else Fg p.Ao L L.length,none,s,Ma o,true⟩):=by
 show(bif decide (1 < p.at_)then _ else _)=_;rw[AAb h];rfl
theorem QG:CH Tryz.prog AG CX (Ab AG 20 [true] (Cl 20 (S1 DP fun _=>false))):=by
 refine Dq okV.all (by kernel_rfl) (by kernel_rfl) (n:=A5 CX) (by kernel_rfl) (fun _=>rfl) fun p rest os=>?_
 unfold S1;split
 .rename_i d i;refine⟨VC (by kernel_rfl),fun objs hr=>?_⟩;obtain⟨hd,ho⟩:=Mi d objs hr;refine⟨_,ho,Qe (pn hd ..) rfl ?_⟩;obtain⟨L,q,s,o,dn⟩:=d;cases q with
  | none=>
   refine(Yx L s o dn i _).mpr ?_;refine MM hd (fun h=>?_) (fun h h2=>?_) fun h h2=>⟨GD h2,?_⟩
   .rw[bJ h];exact⟨rfl,rfl⟩
   .rw[Wr h h2];exact⟨rfl,rfl⟩
   .rw[PJ h h2];exact⟨rfl,rfl⟩
  | some p=>
   refine(Y9 L p s o dn i _).mpr ?_;refine MM hd (fun h=>?_) (fun h h2=>?_) fun h h2=>AU (fun g=>⟨GD h2,?_⟩) fun g=>?_
   .rw[bJ h];exact⟨rfl,rfl⟩
   .rw[Wr h h2];exact⟨rfl,rfl⟩
   .rw[PJ h h2,Sc g];exact⟨rfl,rfl⟩
   .rw[PJ h h2,VV g];exact⟨⟨rfl,aT hd⟩,rfl,rfl⟩
 .trivial
def Uk:Gz:=fun p rest os=>match p,rest,os with
 | .dev d,[.int .i64 i,.slice (some ⟨21,0,some 0⟩) n 18446744073709551616],[.vec [.int .u8] l _]=> .ask (n<=l.length) (.ret ⟨int (Fc d i (l.take n)).1,.dev (Fc d i (l.take n)).2,[]⟩)
 | _,_,_=> .fail
theorem VY{d:A4}{i:Int}{l:Au}(h:d.down=true):Fc d i l=(13,d):=by unfold Fc;rw[h];rfl
theorem Sf{d:A4}{i:Int}{l:Au}(h:d.down=false)(h2:BR d.BI i=true):Fc d i l=(3,d):=by unfold Fc;rw[h,h2];rfl
theorem QK{d:A4}{i:Int}{l:Au}(h:d.down=false)(h2:BR d.BI i=false)(h3:(l.length:Int) > Bq d i):Fc d i l=(4,d):=by unfold Fc;rw[h,h2,AAY h3];rfl
theorem Mb{d:A4}{i:Int}{l:Au}(h:d.down=false)(h2:BR d.BI i=false)(h3:¬(l.length:Int) > Bq d i):Fc d i l=Ry d (Ee (fun m=>Ea m l) i) fun _=>true:=by unfold Fc;rw[h,h2,AAb h3];rfl
theorem SO:CH Tryz.prog AG Bw (Ab AG 20 [true] (Cl 20 Uk)):=by
 refine Dq okV.all (by kernel_rfl) (by kernel_rfl) (n:=A5 Bw) (by kernel_rfl) (fun _=>rfl) fun p rest os=>?_
 unfold Uk;split
 .rename_i d i n l ro;intro hn;refine⟨VC (by kernel_rfl),fun objs hr=>?_⟩;obtain⟨hd,ho⟩:=Wb d (.vec kB l true) objs hr;refine⟨_,ho,Z9 (jj hd ..) rfl ?_⟩;have hl:(l.take n).length=n:=by rw[AAh];omega
  obtain⟨L,q,s,o,dn⟩:=d;cases q with
  | none=>
   refine(bU L s o dn i l n _).mpr ?_;refine MM hd (fun h=>?_) (fun h h2=>?_) fun h h2=>⟨GD h2,rfl,AU (fun g=>?_) fun g=>⟨⟨hn,h2,by have g:¬(n:Int) > _:=g;omega⟩,?_⟩⟩
   .rw[VY h];exact⟨rfl,rfl⟩
   .rw[Sf h h2];exact⟨rfl,rfl⟩
   .rw[QK h h2 (by rw[hl];exact g)];exact⟨rfl,rfl⟩
   .rw[Mb h h2 (by rw[hl];exact g)];exact⟨rfl,rfl⟩
  | some p=>
   refine(dH L p s o dn i l n _).mpr ?_;refine MM hd (fun h=>?_) (fun h h2=>?_) fun h h2=>⟨GD h2,rfl,AU (fun g=>?_) fun g=>AU (fun g2=>⟨⟨hn,h2,by have g:¬(n:Int) > _:=g;omega⟩,?_⟩) fun g2=>⟨⟨hn,h2,by have g:¬(n:Int) > _:=g;omega⟩,⟨rfl,aT hd⟩,?_⟩⟩
   .rw[VY h];exact⟨rfl,rfl⟩
   .rw[Sf h h2];exact⟨rfl,rfl⟩
   .rw[QK h h2 (by rw[hl];exact g)];exact⟨rfl,rfl⟩
   .rw[Mb h h2 (by rw[hl];exact g),Sc g2];exact⟨rfl,rfl⟩
   .rw[Mb h h2 (by rw[hl];exact g),VV g2];exact⟨rfl,rfl⟩
 .trivial
def Da(d:A4)(i:Int):AX:=d.BI.getD i.toNat i0
def Q2(d:A4)(i:Int)(v:AX->Int):Int:=bif d.down then 0 else bif BR d.BI i then 0 else v (Da d i)
def Fi(v:AX->Int):Gz:=fun p rest os=>match p,rest,os with
 | .dev d,[.int .i64 i],[]=> .ret ⟨Cf (Q2 d i v) (P9 d i),.dev d,[]⟩
 | _,_,_=> .fail
theorem Qn{d:A4}{i:Int}{v:AX->Int}(h:d.down=true):Cf (Q2 d i v) (P9 d i)=Cf 0 13:=by unfold Q2 P9;rw[h];rfl
theorem Nh{d:A4}{i:Int}{v:AX->Int}(h:d.down=false)(h2:BR d.BI i=true):Cf (Q2 d i v) (P9 d i)=Cf 0 3:=by unfold Q2 P9;rw[h,h2];rfl
theorem JI{d:A4}{i:Int}{v:AX->Int}(h:d.down=false)(h2:BR d.BI i=false):Cf (Q2 d i v) (P9 d i)=Cf (v (Da d i)) 0:=by unfold Q2 P9;rw[h,h2];rfl
theorem Nf:CH Tryz.prog AG DG (Ab AG 20 [true] (Cl 20 (Fi fun m=>m.b.length))):=by
 refine Dq okV.all (by kernel_rfl) (by kernel_rfl) (n:=A5 DG) (by kernel_rfl) (fun _=>rfl) fun p rest os=>?_
 unfold Fi;split
 .rename_i d i;refine⟨VC (by kernel_rfl),fun objs hr=>?_⟩;obtain⟨hd,ho⟩:=Mi d objs hr;refine⟨_,ho,Qe hd rfl ?_⟩;obtain⟨L,q,s,o,dn⟩:=d;refine(iO L q s o dn i _).mpr (MM hd (fun h=>?_) (fun h h2=>?_) fun h h2=>⟨GD h2,?_⟩)
  .rw[Qn h];exact⟨rfl,rfl⟩
  .rw[Nh h h2];exact⟨rfl,rfl⟩
  .rw[JI h h2];exact⟨rfl,rfl⟩
 .trivial
theorem dS:CH Tryz.prog AG DB (Ab AG 20 [true] (Cl 20 (Fi fun m=>IntKind.wrap .i64 ((m.b.length:Int) - m.HT)))):=by
 refine Dq okV.all (by kernel_rfl) (by kernel_rfl) (n:=A5 DB) (by kernel_rfl) (fun _=>rfl) fun p rest os=>?_
 unfold Fi;split
 .rename_i d i;refine⟨VC (by kernel_rfl),fun objs hr=>?_⟩;obtain⟨hd,ho⟩:=Mi d objs hr;refine⟨_,ho,Qe hd rfl ?_⟩;obtain⟨L,q,s,o,dn⟩:=d;refine(kz L q s o dn i _).mpr (MM hd (fun h=>?_) (fun h h2=>?_) fun h h2=>⟨GD h2,GD h2,?_⟩)
  .rw[Qn h];exact⟨rfl,rfl⟩
  .rw[Nh h h2];exact⟨rfl,rfl⟩
  .rw[JI h h2];exact⟨rfl,rfl⟩
 .trivial
def vD(d:A4)(i a k:Int):Bool:=bif d.down then false else bif BR d.BI i then false else !(On (Da d i) a k)
def xk(d:A4)(i a k:Int):Au:=Xa (Da d i) a k
def NI(d:A4)(a:Int)(dn:Bool)(l:Au):Int × A4:=
 bif Ff a l then(0,bif decide (0 < a)then⟨d.BI,some ⟨a,dn,l⟩,d.AO,d.ops,d.down⟩else bif d.down then⟨d.BI,none,d.AO,d.ops,true⟩else⟨Fg l d.BI d.BI.length,none,d.AO,d.ops,true⟩)else(2,d)
theorem ZI{a:Int}{l:Au}(h:Ff a l=true):0<=a/\KP l:=by
 unfold Ff at h;simp only[AAQ,AAl]at h;refine⟨h.1.1.1.1,by omega,h.1.2,fun x hx=>?_⟩;have:=List.all_eq_true.1 h.2 x hx;unfold KS at this;simp only[AAQ,AAl]at this;exact this.1
theorem gu{d:A4}(h:Fp d)(a:Int)(dn:Bool)(l:Au):Fp (NI d a dn l).2:=by
 obtain⟨h0,h1,h2,h3⟩:=h;unfold NI;cases hp:Ff a l
 .exact⟨h0,h1,h2,h3⟩
 .cases ha:decide (0 < a)
  .cases hdn:d.down
   .exact⟨h0,h1,by show((Fg l d.BI d.BI.length).length:Int)=_;rw[Fw];exact h2,fun p e=>by cases e⟩
   .exact⟨h0,h1,h2,fun p e=>by cases e⟩
  .exact⟨h0,h1,h2,fun p e=>by
    injection e with e;subst e
    exact V3 hp (ABU ha)⟩
def TZ:Gz:=fun p rest os=>match p,rest,os with
 | .dev d,[.agg ⟨[.int .i64 a,.bool dn,.slice (some ⟨21,0,some 0⟩) n 18446744073709551616]⟩],[.vec [.int .i64] l _]=> .ask (n=l.length/\n < 1000) (.ret ⟨int (NI d a dn l).1,.dev (NI d a dn l).2,[]⟩)
 | _,_,_=> .fail
theorem dX:CH Tryz.prog AG ES (Ab AG 20 [true] (Cl 20 TZ)):=by
 refine Dq okV.all (by kernel_rfl) (by kernel_rfl) (n:=A5 ES) (by kernel_rfl) (fun _=>rfl) fun p rest os=>?_
 unfold TZ;split
 .rename_i d a dn n l ro;rintro⟨hn,hn2⟩;refine⟨VC (by kernel_rfl),fun objs hr=>?_⟩;obtain⟨hd,ho⟩:=Wb d (.vec kI l true) objs hr;refine⟨_,ho,Z9 (gu hd ..) rfl ?_⟩;obtain⟨L,q,s,o,dw⟩:=d;refine(fU L q s o dw a dn l n _).mpr (AD (AAY (by have:=hd.s0;change 2<=s at this;omega)) ⟨⟨hn,hn2⟩,?_⟩);unfold NI;cases hp:Ff a l
  .exact⟨rfl,rfl⟩
  .obtain⟨ha,hk⟩:=ZI hp;cases hc:decide (0 < a)
   .have e:(a==0)=true:=by have:=ACZ hc;simp only[ACl];omega
    refine AD rfl (AK rfl (AD e ?_));cases dw
    .exact⟨⟨hn,hk⟩,rfl,rfl⟩
    .exact⟨rfl,rfl⟩
   .have e:(a==0)=false:=by have:=ABU hc;simp only[AA7];omega
    exact AD rfl (AD rfl (AK e ⟨rfl,rfl⟩))
 .trivial
def HQ(v:A4->Value)(g:A4->A4):Gz:=fun p rest os=>match p,rest,os with
 | .dev d,[],[]=> .ret ⟨v d,.dev (g d),[]⟩
 | _,_,_=> .fail
theorem NV{f:FuncId}(he:entry Tryz.prog f=some (A5 f,BN Tryz.prog f []))(ha:Nat.ble 1 (A5 f)=true){v:A4->Value}{g:A4->A4}(hv:∀d,C4 6 (v d)=true)(hg:∀d,Fp d->Fp (g d))(hq:∀d,Fp d->Bu XV (As cV) [] f [20,21,22] 21 (fun w os=>w=v d/\os=oa 21 22 (g d)) 400 (st f [Al 20] (jF d))):CH Tryz.prog AG f (Ab AG 20 [true] (Cl 20 (HQ v g))):=by
 refine Dq okV.all (by kernel_rfl) (by kernel_rfl) (n:=A5 f) he (fun _=>rfl) fun p rest os=>?_
 unfold HQ;split
 .rename_i d;refine⟨VC ha,fun objs hr=>?_⟩;obtain⟨hd,ho⟩:=Mi d objs hr;exact⟨_,ho,Qe (hg d hd) (hv d) (hq d hd)⟩
 .trivial
theorem ZE{L:List AX}{q:Option BG}{s o:Int}{dn:Bool}(hd:Fp ⟨L,q,s,o,dn⟩):decide (s > 0)=true:=by
 have:=hd.s0;change 2<=s at this
 exact AAY (by omega)
theorem L1:CH Tryz.prog AG DV (Ab AG 20 [true] (Cl 20 (HQ (fun d=> .bool d.down) id))):=by
 refine NV (by kernel_rfl) (by kernel_rfl) (fun d=>rfl) (fun d h=>h) fun d hd=>?_
 obtain⟨L,q,s,o,dn⟩:=d;refine(dz L q s o dn _).mpr (AD (ZE hd) ?_);cases dn
 .exact⟨rfl,rfl⟩
 .exact⟨rfl,rfl⟩
theorem dh:CH Tryz.prog AG FV (Ab AG 20 [true] (Cl 20 (HQ (fun d=>int d.ops) id))):=by
 refine NV (by kernel_rfl) (by kernel_rfl) (fun d=>rfl) (fun d h=>h) fun d hd=>?_
 obtain⟨L,q,s,o,dn⟩:=d;exact(gC L q s o dn _).mpr (AD (ZE hd) ⟨rfl,rfl⟩)
theorem Kh:CH Tryz.prog AG DI (Ab AG 20 [true] (Cl 20 (HQ (fun d=>int d.AO) id))):=by
 refine NV (by kernel_rfl) (by kernel_rfl) (fun d=>rfl) (fun d h=>h) fun d hd=>?_
 obtain⟨L,q,s,o,dn⟩:=d;exact(ZS L q s o dn _).mpr (AD (ZE hd) ⟨rfl,rfl⟩)
def vi(n:Nat):Value:= .int .i64 (.ofNat n)
def vu(n:Nat):Value:= .int .u64 (.ofNat n)
def vy(n:Nat):Value:= .int .u8 (.ofNat n)
def vT:Value:= .bool true
def vF:Value:= .bool false
def vN:Value:= .slice none 0 0
def vs(b n c:Nat):Value:=sl b 0 n (18446744073709551616+c)
def vb(l:AP):Value:= .string (bsS l)
def pq(f:FuncId)(l:AP):Code:=BN Tryz.prog f l
end Go.AB
