/-
  Part of the proof: the machine that runs a program by fixed orders, and that each of its runs is a run of the model; or a run of it in parts. No conditions.
-/
import Derived.Test.YtfnfimeefeigdaaGreatDoorIdTell3
import Derived.Test.YtfnfimeefeigdaaGreatDoorAbr
import Derived.Test.YtfnfimeefeigdaaGreatDoorTblK
import Derived.Lib.Repeat
import Derived.Shelf.Strings.Repeat
import Derived.Shelf.Strconv.Itoa3
import Derived.Shelf.Strings.OnBuilder
import Derived.Shelf.Strings.Split
import Derived.Shelf.Strconv.AtoiAll
import Derived.Shelf.Small.Strs
import Derived.Lib.IndexBytes
import Derived.Test.YtfnfimeefeigdaaGreatDoorIdIop
noncomputable section
set_option maxRecDepth 1000000
namespace Go.AD
theorem AJ.tl {base:Env} {W0 W:World} {μ:Ae} {H:AA} (h:AJ base W0 μ H W) {b:Nat} {T:Bc} {k:EK} {l:List (EK.C k)} {e:Nat} {ro:Bool} (hb:H.get b=some (.cells (Ag k l) e ro)) (hm:μ b=some T) (he1:e≠1):
 AJ base W0 (μ.ext H.next ⟨T.c,T.d,T.r,k.length⟩) ((H.del b).alloc (.vec k l ro)) W/\Ap μ H (μ.ext H.next ⟨T.c,T.d,T.r,k.length⟩) ((H.del b).alloc (.vec k l ro)):=by
 have hn:=(h.fresh H.next (GO _)).2;have hle:=Ae.Cc ⟨T.c,T.d,T.r,k.length⟩ hn;have hlt:=h.bound b T hm;have hbl:=h.lt hb;have nv:¬(AP.cells (Ag k l) e ro).void T:=id;have both:∀{b' p X},((H.del b).alloc (.vec k l ro)).get b'=some p->(μ.ext H.next ⟨T.c,T.d,T.r,k.length⟩) b'=some X->(b'=H.next/\p= .vec k l ro/\X=⟨T.c,T.d,T.r,k.length⟩)∨(b'≠H.next/\b'≠b/\H.get b'=some p/\μ b'=some X):=by
  intro b' p X h1 h2;rw[AA.AM]at h1
  by_cases e:b'=H.next
  ·rw[MB (show b'=(H.del b).next from e)]at h1;cases h1
   subst e;rw[Ae.Af]at h2;cases h2;exact .inl ⟨rfl,rfl,rfl⟩
  ·rw[JT (show ¬b'=(H.del b).next from e)]at h1;rw[Ae.BI _ _ e]at h2;obtain⟨g1,g2⟩:=AA.Bb h1;exact .inr ⟨e,g1,g2,h2⟩
 refine⟨⟨?_,?_,?_,?_,?_,h.size,h.below,h.out,h.os,?_,Ae.le_trans h.le hle,h.grow⟩,⟨hle,ABn _,?_⟩⟩
 ·intro b' p hb' X hm';rcases both hb' hm' with⟨rfl,rfl,rfl⟩ | ⟨_,_,g1,g2⟩
  ·obtain⟨o',h1,h2⟩:=h.obj b _ hb T hm;refine⟨o',h1,.vec _ k l ro o' ?_⟩;cases h2 with
   | cells _ _ _ c t lo hi he hc hr hf=>exact .cells ⟨T.c,T.d,T.r,k.length⟩ _ _ ro c t lo hi rfl (hc.mono hle) hr fun h0 i hi=>hf h0 i (hi.imp id fun⟨q,_⟩=>⟨q,he1⟩)
  ·obtain⟨o2,h2,h3⟩:=h.obj b' p g1 X g2;exact⟨o2,h2,h3.mono hle⟩
 ·intro b' p hb' hr X hm' hv;rcases both hb' hm' with⟨rfl,rfl,rfl⟩ | ⟨_,_,g1,g2⟩
  ·exact h.own b _ hb hr T hm nv
  ·exact h.own b' p g1 hr X g2 hv
 ·intro b1 b2 p1 p2 h1 h2 T1 T2 m1 m2 v1 v2 hcc hrr;rcases both h1 m1 with⟨rfl,rfl,rfl⟩ | ⟨_,n1,g1,g2⟩<;>rcases both h2 m2 with⟨rfl,rfl,rfl⟩ | ⟨_,n2,g3,g4⟩
  ·rfl
  ·exact absurd (h.inj b b2 _ p2 hb g3 T T2 hm g4 nv v2 hcc hrr) (gi n2)
  ·exact absurd (h.inj b1 b p1 _ g1 hb T1 T g2 hm v1 nv hcc hrr) n1
  ·exact h.inj b1 b2 p1 p2 g1 g3 T1 T2 g2 g4 v1 v2 hcc hrr
 ·intro b' hb';have hb':H.next+1<=b':=hb';refine⟨?_,?_⟩
  ·rw[AA.AM,JT (show ¬b'=(H.del b).next by show ¬b'=H.next;omega),AA.BU,JT (by omega)];exact(h.fresh b' (by omega)).1
  ·rw[Ae.BI _ _ (by omega)];exact(h.fresh b' (by omega)).2
 ·intro b' X hm'
  by_cases e:b'=H.next
  ·subst e;rw[Ae.Af]at hm';cases hm';exact hlt
  ·rw[Ae.BI _ _ e]at hm';exact h.bound b' X hm'
 ·obtain⟨φ,q⟩:=h.abs;refine⟨φ,?_,?_⟩
  ·intro b' a r T' hb' hm';rcases both hb' hm' with⟨_,e,_⟩ | ⟨_,_,g1,g2⟩
   ·cases e
   ·obtain⟨r1,r2⟩:=q.rep b' a r T' g1 g2;exact⟨r1.mono hle,r2⟩
  ·intro b' a r T' hb' hm' b2 o2 T2 hb2 hm2 hne2;rcases both hb' hm' with⟨_,e,_⟩ | ⟨_,n1,g1,g2⟩
   ·cases e
   ·rcases both hb2 hm2 with⟨rfl,rfl,rfl⟩ | ⟨_,_,g3,g4⟩
    ·exact⟨fun _=>(q.DG b' a r T' g1 g2 b _ T hb hm (gi n1)).1 nv,fun e=>by cases e⟩
    ·exact q.DG b' a r T' g1 g2 b2 o2 T2 g3 g4 hne2
 ·intro b' hb' hm';refine⟨?_,?_⟩
  ·rw[Ae.BI _ _ (ABq hb')];exact hm'
  ·rw[AA.AM,JT (show ¬b'=(H.del b).next from ABq hb'),AA.BU,JT (by rintro rfl;rw[hm]at hm';cases hm')]
theorem A5.rowP {X:Ctx} {N:Nat} {Φ:Bz} {fn:FuncId} {t:Tr Value} {n:Nat} {todo:List B9} {ds:List Deferred} {r:Bool} {kd:CallKind} {rd:Option Nat} {cs:List Aj} {H:AA} (b j:Nat) (k:EK) (l:List (EK.C k)) {e:Nat} {ro:Bool}
 (hd:C6 todo=true) (hds:(cs.all fun f=>C6 f.todo)=true) (hj:look t j= .pointer (some ⟨b,0,none⟩)) (hb:H.get b=some (.cells (Ag k l) e ro)) (he1:e≠1)
 (hr:A5 X N ⟨⟨fn,t.put j (some (.pointer (some ⟨H.next,0,some 0⟩))),n,todo,ds,r,kd,rd⟩,cs,(H.del b).alloc (.vec k l ro)⟩ Φ):A5 X N ⟨⟨fn,t,n,todo,ds,r,kd,rd⟩,cs,H⟩ Φ:=by
 intro base W0 hb0 hok hplan cs0 μ fr cs' W hm;obtain⟨hH,hlaid,g,gs,hfr,hcs,hnd⟩:=hm;cases hfr with
 | plain fn t n tm todo todo' ds ds' r kd rd rd' ht hi2 hd2 hr2=>
  have hj2:=ht.2 j;rw[hj]at hj2;obtain⟨T,hT⟩:=K1 hj2;obtain⟨h3,h2⟩:=hH.tl hb hT he1;have hcs2:=Rr (ks:=[]) (H':=(H.del b).alloc (.vec k l ro)) (hcs.mono (h2.keeps _)) hds;have e:cs.map (Ir [])=cs:=by
   refine(AAQ fun f _=>?_).trans (ABc _);cases f;rfl
  rw[e]at hcs2;refine hr base W0 hb0 hok hplan cs0 _ _ cs' W ⟨h3,hlaid.mono h2.le,[],[],.plain fn _ n tm todo todo' ds ds' r kd rd rd' ⟨ht.1,fun u=>?_⟩ (hi2.mono h2.le) (hd2.mono h2.le) (hr2.mono h2.le),hcs2,by simp⟩
  by_cases hu:u=j
  ·subst hu;have hi3:=ht.2 u;rw[hj]at hi3;rw[Dq];generalize tm.getD u Go.undef=w at hi3;cases hi3 with
   | ptr _ _ T2 hT2=>
    rw[hT]at hT2;cases hT2
    have:=AH.HS (μ:=μ.ext H.next ⟨T.c,T.d,T.r,k.length⟩) H.next 0 0 _ (Ae.Af _ _ _) (by unfold Aa;decide);rw[ABp]at this;exact this
  ·rw[EE _ _ hu];exact(ht.2 u).mono h2.le
 | drawn fn t n tm ops BJ idx D G k k' ds ds' kd rd rd' hD hk2 hd2 hr2=>cases hd
end Go.AD
namespace Go.AD
open Go.Proofs
theorem na:CY Tryz.prog AI Oj (N6 SH):=Kw Wp
def iP:HL:=fun args H K=>match args with
 | []=>K SH.v H
 | _=>False
def uq:List GA:=[(Oj,N6 SH,iP)]
theorem cq:Ci uq:= .other na (fun X g hX args H K hk=>by
 change iP args H K at hk
 unfold iP at hk;split at hk
 ·refine⟨_,_,?_,hk⟩;unfold CP;simp only[hX];rfl
 ·exact hk.elim) .nil
abbrev XU:Ctx:=Bp Tryz.prog AI (Cv uq)
abbrev kW:EK:=[.int .u32]
def OC:Ad:=(List.range 256).map fun i=>match SH.v with
 | .agg xs=>match xs.toList.getD i (.bool true)with
  | .int _ m=>m
  | _=>0
 | _=>0
def ZY:List B9:=[.code (A9 Tryz.prog BC [1,1,1,0,1,0,0]),.inLoop (A9 Tryz.prog BC [1,1,1,0,1,0,0]),.inBlock 0,.code (A9 Tryz.prog BC [1,1,1,1])]
def iX (l:Ad) (x:Int) (j n:Nat) (i:Int) (cs:AL):BT:=
 ⟨⟨BC,EZ [(5,At 21),(6,.int .u32 x),(12,.slice (some ⟨20,0,some j⟩) n 18446744073709551616),(13,int n),(14,int i)],BD BC,ZY,[],false,.normal,none⟩,[],hp [.vec kB l true,.cells cs 0 false]⟩
def uv (l:Ad) (x:Int) (j n:Nat) (i:Int) (tb:Ad):BT:=
 ⟨⟨BC,EZ [(5,.pointer (some ⟨21,0,some 0⟩)),(6,.int .u32 x),(12,.slice (some ⟨20,0,some j⟩) n 18446744073709551616),(13,int n),(14,int i)],BD BC,ZY,[],false,.normal,none⟩,[],hp [.vec kB l true,.vec kW tb false]⟩
def oe:Stop:=⟨BC,0,3,21,[20],[5,6,12,13,14]⟩
theorem tj (l:Ad) (x:Int) (j n:Nat) (Q:Bm) (R:Bz):Iy XU (Ax uq) [] BC [] oe [] Q R 200 (st BC [.int .u32 x,.slice (some ⟨20,0,some j⟩) n 18446744073709551616] (hp [.vec kB l true]))=(
 let a:=IntKind.bits IntKind.u32;(R (iX l (IntKind.wrap IntKind.u32 ((BitVec.toNat (BitVec.ofInt a x ^^^ BitVec.ofInt a 4294967295)):Int)) j n 0 (Ag kW OC)))):=by kernel_rfl
def x8 (a b:Int):Int:=IntKind.wrap .u8 ((BitVec.toNat (BitVec.ofInt (IntKind.bits .u8) a ^^^ BitVec.ofInt (IntKind.bits .u8) b)):Int)
def pX (a b:Int):Int:=IntKind.wrap .u32 ((BitVec.toNat (BitVec.ofInt (IntKind.bits .u32) a ^^^ BitVec.ofInt (IntKind.bits .u32) b)):Int)
def Zb (x c:Int):Int:=x8 (IntKind.wrap .u8 x) c
def OP (tb:Ad) (x c:Int):Int:=pX (tb.getD (0+(Zb x c).toNat) (EK.BL kW)) (Int.fdiv x (2 ^ min 8 (IntKind.bits .u32)))
def OB (l:Ad) (x:Int) (j n:Nat) (i:Int) (tb:Ad) (E K:Prop):Prop:=
 bif decide (i < (n:Int))then(bif decide (0<=i)&&Nat.blt i.toNat n then(bif Nat.blt (j+i.toNat) l.length then
  (bif decide (0<=Zb x (l.getD (j+i.toNat) (EK.BL kB)))&&Nat.blt (Zb x (l.getD (j+i.toNat) (EK.BL kB))).toNat 256 then
   (bif Nat.blt (0+(Zb x (l.getD (j+i.toNat) (EK.BL kB))).toNat) tb.length then K else False)else False)else False)else False)else E
theorem ga (l:Ad) (x:Int) (j n:Nat) (i:Int) (tb:Ad) (Q:Bm) (R:Bz):Iy XU (Ax uq) [] BC [] oe [] Q R 200 (uv l x j n i tb)=
 OB l x j n i tb (Q (.int .u32 (pX x 4294967295)) []) (R (uv l (OP tb x (l.getD (j+i.toNat) (EK.BL kB))) j n (IntKind.wrap .i64 (i+1)) tb)):=by kernel_rfl
def vh (l:Ad) (x:Int) (j n:Nat) (i:Int) (tb:Ad):BT:=
 ⟨⟨BC,(EZ [(5,At 21),(6,.int .u32 x),(12,.slice (some ⟨20,0,some j⟩) n 18446744073709551616),(13,int n),(14,int i)]).put 5 (some (.pointer (some ⟨22,0,some 0⟩))),BD BC,ZY,[],false,.normal,none⟩,[],
  ((hp [.vec kB l true,.cells (Ag kW tb) 0 false]).del 21).alloc (.vec kW tb false)⟩
theorem ku (l:Ad) (x:Int) (j n:Nat) (i:Int) (tb:Ad) (Q:Bm) (R:Bz):Iy XU (Ax uq) [] BC [] oe [] Q R 200 (vh l x j n i tb)=
 OB l x j n i tb (Q (.int .u32 (pX x 4294967295)) []) (R (uv l (OP tb x (l.getD (j+i.toNat) (EK.BL kB))) j n (IntKind.wrap .i64 (i+1)) tb)):=by kernel_rfl
theorem iH (n:Int):0<=IntKind.u8.wrap n/\IntKind.u8.wrap n < 256:=by simp[IntKind.wrap,IntKind.bits,IntKind.signed];omega
theorem sR (x c:Int):0<=Zb x c/\Zb x c < 256:=iH _
theorem Ta {l:Ad} {x:Int} {j n i:Nat} {tb:Ad} {E K:Prop} (hl:j+n<=l.length) (ht:tb.length=256) (hi:i < n) (hK:K):OB l x j n (i:Int) tb E K:=by
 obtain⟨h1,h2⟩:=sR x (l.getD (j+(i:Int).toNat) (EK.BL kB));unfold OB;generalize Zb x (l.getD (j+(i:Int).toNat) (EK.BL kB))=c at h1 h2;refine AB (KE (by omega)) (AB ?_ (AB ?_ (AB ?_ (AB ?_ hK))))
 ·simp only[MG,Dg,TL];exact⟨by omega,Ez hi⟩
 ·rw[MG];exact Ez (by omega)
 ·simp only[Dg,TL];exact⟨h1,Ez (by omega)⟩
 ·rw[ht];exact Ez (by omega)
theorem RN {l:Ad} {x:Int} {j n i:Nat} {tb:Ad} {E K:Prop} (hi:n<=i) (hE:E):OB l x j n (i:Int) tb E K:=by
 unfold OB;exact AZ (MC (by omega)) hE
def Lj (tb:Ad) (x:Int) (l:Ad):Int:=pX (l.foldl (OP tb) x) 4294967295
theorem qh {l:Ad} {j n i:Nat} (hl:j+n<=l.length) (hi:i < n) (tb:Ad) (x:Int):Lj tb x ((l.drop (j+i)).take (n - i))=Lj tb (OP tb x (l.getD (j+(i:Int).toNat) (EK.BL kB))) ((l.drop (j+(i+1))).take (n - (i+1))):=by
 have hlt:j+i < l.length:=by omega
 unfold Lj;rw[uP hlt,show n - i=(n - (i+1))+1 by omega,ABF,ABD,MG,Kd,Jj hlt];rfl
theorem Z0 {n i:Nat} (hb:n < 1000000) (hi:i < n):IntKind.wrap .i64 ((i:Int)+1)=((i+1:Nat):Int):=by rw[wrap64 (by omega) (by omega)];rfl
theorem mU {l:Ad} {j n:Nat} {tb:Ad} (hl:j+n<=l.length) (ht:tb.length=256) (hb:n < 1000000):∀(q i:Nat) (x:Int),n - i=q->i<=n->AX XU 21 BC (fun v _=>v= .int .u32 (Lj tb x ((l.drop (j+i)).take (n - i)))) (uv l x j n i tb):=by
 intro q;induction q with
 | zero=>
  intro i x hq hi;refine Bq cq.pf [] [] oe [] (by kernel_rfl) (GO _) (fun v _=>v= .int .u32 (Lj tb x ((l.drop (j+i)).take (n - i)))) (fun _=>False) (fun v H h=>h) (fun c h=>h.elim) (n:=200) ?_;rw[ga];exact RN (by omega) (by rw[hq];rfl)
 | succ q ih=>
  intro i x hq hi;refine Bq cq.pf [] [] oe [] (by kernel_rfl) (GO _) (fun _ _=>False) (fun c=>c=uv l (OP tb x (l.getD (j+(i:Int).toNat) (EK.BL kB))) j n (i+1:Nat) tb) (fun v H h=>h.elim) (fun c h=>?_) (n:=200) ?_
  ·rw[h,qh hl (by omega)];exact ih (i+1) _ (by omega) (by omega)
  ·rw[ga,Z0 hb (by omega)];exact Ta hl ht (by omega) rfl
theorem gn {l:Ad} {j n:Nat} {tb:Ad} (hl:j+n<=l.length) (ht:tb.length=256) (hb:n < 1000000) (x:Int):AX XU 21 BC (fun v _=>v= .int .u32 (Lj tb x ((l.drop j).take n))) (vh l x j n 0 tb):=by
 by_cases h0:n=0
 ·subst h0;refine Bq cq.pf [] [] oe [] (by kernel_rfl) (GO _) (fun v _=>v= .int .u32 (Lj tb x ((l.drop j).take 0))) (fun _=>False) (fun v H h=>h) (fun c h=>h.elim) (n:=200) ?_;rw[ku];exact RN (i:=0) (GO _) rfl
 ·refine Bq cq.pf [] [] oe [] (by kernel_rfl) (GO _) (fun _ _=>False) (fun c=>c=uv l (OP tb x (l.getD (j+((0:Nat):Int).toNat) (EK.BL kB))) j n (0+1:Nat) tb) (fun v H h=>h.elim) (fun c h=>?_) (n:=200) ?_
  ·have:=qh hl (i:=0) (by omega) tb x;rw[AAN,ABV]at this;rw[h,this];exact mU hl ht hb (n - 1) 1 _ (by omega) (by omega)
  ·rw[ku];have:=Z0 hb (i:=0) (by omega);rw[show(0:Int)=((0:Nat):Int)from rfl,this];exact Ta hl ht (by omega) rfl
theorem j5 {l:Ad} {j n:Nat} {tb:Ad} (hl:j+n<=l.length) (ht:tb.length=256) (hb:n < 1000000) (x:Int):AX XU 21 BC (fun v _=>v= .int .u32 (Lj tb x ((l.drop j).take n))) (iX l x j n 0 (Ag kW tb)):=by
 unfold AX iX;refine A5.rowP 21 5 kW tb (by kernel_rfl) (by kernel_rfl) (by kernel_rfl) (e:=0) (ro:=false) (by kernel_rfl) (by decide) ?_;exact gn hl ht hb x
theorem ZD:OC.length=256:=by unfold OC;simp
def Er (x:Int) (l:Ad):Int:=Lj OC (pX x 4294967295) l
theorem mH (l:Ad) (x:Int) (j n:Nat) (Q:Bm) (R:Bz):Iy XU (Ax uq) [] BC [] oe [] Q R 200 (st BC [.int .u32 x,.slice (some ⟨20,0,some j⟩) n 18446744073709551616] (hp [.vec kB l true]))=R (iX l (pX x 4294967295) j n 0 (Ag kW OC)):=by
 rw[tj];exact congrArg R rfl
theorem lz {l:Ad} {j n:Nat} (hl:j+n<=l.length) (hb:n < 1000000) (x:Int):AX XU 21 BC (fun v _=>v= .int .u32 (Er x ((l.drop j).take n))) (st BC [.int .u32 x,.slice (some ⟨20,0,some j⟩) n 18446744073709551616] (hp [.vec kB l true])):=by
 refine Bq cq.pf [] [] oe [] (by kernel_rfl) (GO _) (fun _ _=>False) (fun c=>c=iX l (pX x 4294967295) j n 0 (Ag kW OC)) (fun v H h=>h.elim) (fun c h=>?_) (n:=200) ?_
 ·rw[h];exact j5 hl ZD hb _
 ·rw[mH]
def rb (args:AL) (objs:BN):GT:=match args,objs with
 | [.int .u32 x,.slice (some ⟨20,0,some j⟩) n 18446744073709551616],[.vec [.int .u8] l _]=> .ask (j+n<=l.length/\n < 1000000) (.ret ⟨.int .u32 (Er x ((l.drop j).take n)),[],[]⟩)
 | _,_=> .fail
theorem mO:CY Tryz.prog AI BC (Ai AI 20 [] rb):=by
 refine BF cq.all (by kernel_rfl) (n:=BD BC) (by kernel_rfl) (by kernel_rfl) fun argsc objs x hx hro=>?_
 clear hro;unfold rb at hx;split at hx
 ·rename_i x j n l ro;simp only[GT.run]at hx;split at hx
  ·rename_i hp0;cases hx
   obtain⟨hl,hb⟩:=hp0;exact⟨BE (by kernel_rfl),Ak.mono (Q:=fun v _=>v= .int .u32 (Er x ((l.drop j).take n))) (AX.Fh (lz hl hb x)) fun v H hv=>by subst hv;exact Ch rfl⟩
  ·cases hx
 ·cases hx
def xi:List GA:=[GQ BC [] rb]
theorem xH:Ci xi:= .cons mO .nil
abbrev ye:Ctx:=Bp Tryz.prog AI (Cv xi)
def pD (args:AL) (objs:BN):GT:=match args,objs with
 | [.slice (some ⟨20,0,some j⟩) n 18446744073709551616],[.vec [.int .u8] l _]=> .ask (j+n<=l.length/\n < 1000000) (.ret ⟨.int .u32 (Er 0 ((l.drop j).take n)),[],[]⟩)
 | _,_=> .fail
theorem sj (l:Ad) (j n:Nat) (Q:Bm):CU ye (Ax xi) [] F3 [] 21 Q 100 (st F3 [.slice (some ⟨20,0,some j⟩) n 18446744073709551616] (hp [.vec kB l true]))=
 ((j+n<=l.length/\n < 1000000)/\Q (.int .u32 (Er 0 ((l.drop j).take n))) []):=by kernel_rfl
theorem Zy:CY Tryz.prog AI F3 (Ai AI 20 [] pD):=by
 refine BF xH.all (by kernel_rfl) (n:=BD F3) (by kernel_rfl) (by kernel_rfl) fun argsc objs x hx hro=>?_
 clear hro;unfold pD at hx;split at hx
 ·rename_i j n l ro;simp only[GT.run]at hx;split at hx
  ·rename_i hp0;cases hx
   refine⟨BE (by kernel_rfl),Ak.mono (Q:=fun v _=>v= .int .u32 (Er 0 ((l.drop j).take n))) (AX.Fh ?_) fun v H hv=>by subst hv;exact Ch rfl⟩;have hv:CU ye (Ax xi) [] F3 [] 21 (fun v _=>v= .int .u32 (Er 0 ((l.drop j).take n))) 100 (st F3 [.slice (some ⟨20,0,some j⟩) n 18446744073709551616] (hp [.vec kB l true])):=(sj l j n _).mpr ⟨hp0,rfl⟩;exact BK xH.pf (by kernel_rfl) hv
  ·cases hx
 ·cases hx
def gq:List GA:=[GQ FR [] (SN kB 1)]
theorem su:Ci gq:= .cons Wi .nil
abbrev lN:Ctx:=Bp Tryz.prog AI (Cv gq)
theorem tR (q:Int) (Q:Bm):CU lN (Ax gq) [] A3 [] 20 Q 900 (st A3 [.slice none 0 0,.int .u64 q,int 4] (hp []))=(
 let a:=IntKind.bits IntKind.u64;(bif Int.fdiv q (2 ^ min 32 a)==0 then(Q (.tuple ⟨[(.slice (some ⟨29,0,none⟩) 4 18446744073709551620),(int 0)]⟩) [some (.cells [(.int IntKind.u8 (IntKind.wrap IntKind.u8 (Int.fdiv q (2 ^ min 0 a)))),(.int IntKind.u8 (IntKind.wrap IntKind.u8 (Int.fdiv q (2 ^ min 8 a)))),(.int IntKind.u8 (IntKind.wrap IntKind.u8 (Int.fdiv q (2 ^ min 16 a)))),(.int IntKind.u8 (IntKind.wrap IntKind.u8 (Int.fdiv q (2 ^ min 24 a))))] 1 false)])else(Q (.tuple ⟨[(.slice none 0 0),(int 16)]⟩) []))):=by kernel_rfl
theorem uI (l:Ad) (m:Nat) (q:Int) (Q:Bm):CU lN (Ax gq) [] A3 [] 21 Q 900 (st A3 [Ao 20 m,.int .u64 q,int 1] (hp [.vec kB l true]))=(
 let b:=IntKind.bits IntKind.u64;let a:=List.take m (List.drop 0 l);(bif Int.fdiv q (2 ^ min 8 b)==0 then(0+m<=l.length/\BQ 1 m=true)/\(bif true&&Nat.ble (0+m) a.length&&BQ 1 (m+1)then(Q (.tuple ⟨[(Ao 25 (m+1)),(int 0)]⟩) [some (.vec ([SK.int IntKind.u8]) (List.take m (List.drop 0 a)++[IntKind.wrap IntKind.u8 (Int.fdiv q (2 ^ min 0 b))]) false)])else False)else(Q (.tuple ⟨[(.slice none 0 0),(int 16)]⟩) []))):=by kernel_rfl
theorem tK (l:Ad) (m:Nat) (q:Int) (Q:Bm):CU lN (Ax gq) [] A3 [] 21 Q 900 (st A3 [Ao 20 m,.int .u64 q,int 2] (hp [.vec kB l true]))=(
 let c:=List.take m (List.drop 0 l);let b:=IntKind.bits IntKind.u64;let a:=List.take m (List.drop 0 c)++[IntKind.wrap IntKind.u8 (Int.fdiv q (2 ^ min 0 b))];(bif Int.fdiv q (2 ^ min 16 b)==0 then(0+m<=l.length/\BQ 1 m=true)/\(bif true&&Nat.ble (0+m) c.length&&BQ 1 (m+1)then(bif true&&Nat.ble (0+(m+1)) a.length&&BQ 1 (m+1+1)then(Q (.tuple ⟨[(Ao 27 (m+1+1)),(int 0)]⟩) [some (.vec ([SK.int IntKind.u8]) (List.take (m+1) (List.drop 0 a)++[IntKind.wrap IntKind.u8 (Int.fdiv q (2 ^ min 8 b))]) false)])else False)else False)else(Q (.tuple ⟨[(.slice none 0 0),(int 16)]⟩) []))):=by kernel_rfl
theorem sW (l:Ad) (m:Nat) (q:Int) (Q:Bm):CU lN (Ax gq) [] A3 [] 21 Q 900 (st A3 [Ao 20 m,.int .u64 q,int 8] (hp [.vec kB l true]))=(
 let r:=m+1+1+1;let p:=List.take m (List.drop 0 l);let o:=m+1+1+1+1+1+1+1+1;let n:=m+1+1+1+1;let k:=m+1+1+1+1+1;let j:=m+1+1+1+1+1+1;let i:=m+1+1+1+1+1+1+1;let d:=IntKind.bits IntKind.u64;let e:=List.take m (List.drop 0 p)++[IntKind.wrap IntKind.u8 (Int.fdiv q (2 ^ min 0 d))];let c:=List.take (m+1) (List.drop 0 e)++[IntKind.wrap IntKind.u8 (Int.fdiv q (2 ^ min 8 d))];let h:=List.take (m+1+1) (List.drop 0 c)++[IntKind.wrap IntKind.u8 (Int.fdiv q (2 ^ min 16 d))];let a:=List.take r (List.drop 0 h)++[IntKind.wrap IntKind.u8 (Int.fdiv q (2 ^ min 24 d))];let g:=List.take n (List.drop 0 a)++[IntKind.wrap IntKind.u8 (Int.fdiv q (2 ^ min 32 d))];let b:=List.take k (List.drop 0 g)++[IntKind.wrap IntKind.u8 (Int.fdiv q (2 ^ min 40 d))];let f:=List.take j (List.drop 0 b)++[IntKind.wrap IntKind.u8 (Int.fdiv q (2 ^ min 48 d))];(0+m<=l.length/\BQ 1 m=true)/\(bif true&&Nat.ble (0+m) p.length&&BQ 1 (m+1)then(bif true&&Nat.ble (0+(m+1)) e.length&&BQ 1 (m+1+1)then(bif true&&Nat.ble (0+(m+1+1)) c.length&&BQ 1 r then(bif true&&Nat.ble (0+r) h.length&&BQ 1 n then(bif true&&Nat.ble (0+n) a.length&&BQ 1 k then(bif true&&Nat.ble (0+k) g.length&&BQ 1 j then(bif true&&Nat.ble (0+j) b.length&&BQ 1 i then(bif true&&Nat.ble (0+i) f.length&&BQ 1 o then(Q (.tuple ⟨[(Ao 39 o),(int 0)]⟩) [some (.vec ([SK.int IntKind.u8]) (List.take i (List.drop 0 f)++[IntKind.wrap IntKind.u8 (Int.fdiv q (2 ^ min 56 d))]) false)])else False)else False)else False)else False)else False)else False)else False)else False)):=by kernel_rfl
def IM (q:Int) (w:Nat):Ad:=(List.range w).map fun i=>IntKind.wrap .u8 (Int.fdiv q (2 ^ min (8 * i) (IntKind.bits .u64)))
def Ro (q:Int) (w:Nat):Bool:=Nat.beq w 8||(Int.fdiv q (2 ^ min (8 * w) (IntKind.bits .u64))==0)
structure Ti (m:Nat) (l:Ad) (q:Int) (w:Int):Prop where
 hm:m=l.length
 hb:m < 100000
 hw:w=1∨w=2∨w=8
 hf:Ro q w.toNat=true
def yI (args:AL) (objs:BN):GT:=match args,objs with
 | [.slice none 0 0,.int .u64 q,.int .i64 4],[]=> .ask (Ro q 4=true) (.ret ⟨.tuple ⟨[Ao 20 4,int 0]⟩,[],[.vec kB (IM q 4) false]⟩)
 | [.slice (some ⟨20,0,some 0⟩) m 18446744073709551616,.int .u64 q,.int .i64 w],[.vec [.int .u8] l _]=> .ask (Ti m l q w) (.ret ⟨.tuple ⟨[Ao 21 (m+w.toNat),int 0]⟩,[],[.vec kB (l++IM q w.toNat) false]⟩)
 | _,_=> .fail
theorem L8 {n:Nat} (h:n < 200000):BQ 1 n=true:=by
 unfold BQ;simp only[AAo];first
  | exact Ez (by omega)
  | (simp;omega)
theorem GC {l:Ad} {n:Nat} (h:n=l.length) (hb:n+1 < 200000):(true&&Nat.ble (0+n) l.length&&BQ 1 (n+1))=true:=by
 rw[AAM,Dg];exact⟨Ez (by omega),L8 hb⟩
theorem Ic {l:Ad} {n:Nat} (h:l.length<=n):List.take n (List.drop 0 l)=l:=by rw[bl,Nw h]
theorem rm {l:Ad} {q:Int} (hb:l.length < 100000) (hf:Ro q 1=true):CU lN (Ax gq) [] A3 [] 21 (fun v os=>v= .tuple ⟨[Ao 25 (l.length+1),int 0]⟩/\os=[some (.vec kB (l++IM q 1) false)]) 900 (st A3 [Ao 20 l.length,.int .u64 q,int 1] (hp [.vec kB l true])):=by
 rw[uI];(conv=>zeta);rw[Ic (GO l.length),Ic (GO l.length)]
 exact AB hf ⟨⟨by omega,L8 (by omega)⟩,AB (GC rfl (by omega)) ⟨rfl,rfl⟩⟩
theorem rC {l:Ad} {q:Int} (hb:l.length < 100000) (hf:Ro q 2=true):CU lN (Ax gq) [] A3 [] 21 (fun v os=>v= .tuple ⟨[Ao 27 (l.length+2),int 0]⟩/\os=[some (.vec kB (l++IM q 2) false)]) 900 (st A3 [Ao 20 l.length,.int .u64 q,int 2] (hp [.vec kB l true])):=by
 rw[tK];(conv=>zeta);rw[Ic (GO l.length),Ic (GO l.length),Ic (l:=l++[_]) (by simp)]
 exact AB hf ⟨⟨by omega,L8 (by omega)⟩,AB (GC rfl (by omega)) (AB (GC (by simp) (by omega)) ⟨rfl,by rw[aU];rfl⟩)⟩
theorem uS {l:Ad} {q:Int} (hb:l.length < 100000):CU lN (Ax gq) [] A3 [] 21 (fun v os=>v= .tuple ⟨[Ao 39 (l.length+8),int 0]⟩/\os=[some (.vec kB (l++IM q 8) false)]) 900 (st A3 [Ao 20 l.length,.int .u64 q,int 8] (hp [.vec kB l true])):=by
 rw[sW];(conv=>zeta);rw[Ic (GO l.length),Ic (GO l.length),Ic (l:=l++[_]) (by simp),Ic (l:=l++[_]++[_]) (by simp),Ic (l:=l++[_]++[_]++[_]) (by simp),Ic (l:=l++[_]++[_]++[_]++[_]) (by simp),Ic (l:=l++[_]++[_]++[_]++[_]++[_]) (by simp),Ic (l:=l++[_]++[_]++[_]++[_]++[_]++[_]) (by simp),Ic (l:=l++[_]++[_]++[_]++[_]++[_]++[_]++[_]) (by simp)]
 refine⟨⟨by omega,L8 (by omega)⟩,AB (GC rfl (by omega)) (AB (GC (by simp) (by omega)) (AB (GC (by simp) (by omega)) (AB (GC (by simp) (by omega)) (AB (GC (by simp) (by omega)) (AB (GC (by simp) (by omega)) (AB (GC (by simp) (by omega)) (AB (GC (by simp) (by omega)) ⟨rfl,?_⟩)))))))⟩;simp only[aU];rfl
theorem Rm {z n:Nat} {l:Ad} {H:AA} (hz:20<=z) (hg:H.get z=some (.vec kB l false)):Db AI 20 0 [] ⟨.tuple ⟨[Ao 20 n,int 0]⟩,[],[.vec kB l false]⟩ (.tuple ⟨[Ao z n,int 0]⟩) H:=by
 refine⟨[z],by simp,fun b hb=>by rw[Q4]at hb;rw[hb];exact hz,rfl,rfl,fun j b o hb ho=>?_,fun j o hj=>(by cases hj)⟩;cases j with
 | zero=>cases hb;cases ho;exact⟨_,rfl,hg⟩
 | succ j=>cases hb
theorem fD {z n:Nat} {l:Ad} {H:AA} (hz:21<=z) (hg:H.get z=some (.vec kB l false)):Db AI 20 1 [] ⟨.tuple ⟨[Ao 21 n,int 0]⟩,[],[.vec kB l false]⟩ (.tuple ⟨[Ao z n,int 0]⟩) H:=by
 refine⟨[z],by simp,fun b hb=>by rw[Q4]at hb;rw[hb];exact hz,rfl,rfl,fun j b o hb ho=>?_,fun j o hj hm=>(by cases hm)⟩;cases j with
 | zero=>cases hb;cases ho;exact⟨_,rfl,hg⟩
 | succ j=>cases hb
theorem UT {l r:Ad} {args:AL} {z n:Nat} (hz:21<=z) (hq:CU lN (Ax gq) [] A3 [] 21 (fun v os=>v= .tuple ⟨[Ao z n,int 0]⟩/\os=[some (.vec kB r false)]) 900 (st A3 args (hp [.vec kB l true]))):
 Ak lN 21 (fun b=>20<=b/\b < 20+1) A3 (fun v H=>Db AI 20 1 [] ⟨.tuple ⟨[Ao 21 n,int 0]⟩,[],[.vec kB r false]⟩ v H) (st A3 args (hp [.vec kB l true])):=by
 refine Ak.mono (AX.Fh (BK su.pf (by kernel_rfl) hq)) fun v H ⟨e,hos⟩=>?_
 subst e;have hos:[H.get z]=_:=hos;simp only[Nh,iy]at hos;exact fD hz hos
theorem rE:CY Tryz.prog AI A3 (Ai AI 20 [] yI):=by
 refine BF su.all (by kernel_rfl) (n:=BD A3) (by kernel_rfl) (by kernel_rfl) fun argsc objs x hx hro=>?_
 clear hro;unfold yI at hx;split at hx
 ·rename_i q;simp only[GT.run]at hx;split at hx
  ·rename_i hf;cases hx
   refine⟨BE (by kernel_rfl),Ak.OE ?_⟩;have hq:CU lN (Ax gq) [] A3 [] 20 (fun v os=>v= .tuple ⟨[.slice (some ⟨29,0,none⟩) 4 18446744073709551620,int 0]⟩/\os=[some (.cells (Ag kB (IM q 4)) 1 false)]) 900 (st A3 [.slice none 0 0,.int .u64 q,int 4] (hp [])):=by
    rw[tR];exact AB hf ⟨rfl,rfl⟩
   refine Ak.mono (AX.Fh (BK su.pf (by kernel_rfl) hq)) fun v H ⟨e,hos⟩=>?_
   subst e;have hos:[H.get 29]=_:=hos;simp only[Nh,iy]at hos;refine .JF 29 kB (IM q 4) false hos (.vk 29 kB (IM q 4) false (by rw[AA.AU,MB rfl]) (by intro h;have:=congrArg List.length h;unfold IM at this;simp at this) (by decide) (.tuple ⟨[Ao 29 4,int 0]⟩) (.tuple (.cons ?_ (.cons (.same _) .nil))) (.here (Rm (by decide) (by rw[AA.AU,MB rfl]))));have:=Rw.row (r:=29) 4 (Aa+4) 4 rfl;rw[Dh]at this;exact this
  ·cases hx
 ·rename_i m q w l ro;simp only[GT.run]at hx;split at hx
  ·rename_i hp0;cases hx
   obtain⟨hm,hb,hw,hf⟩:=hp0;subst hm;refine⟨BE (by kernel_rfl),?_⟩;rcases hw with rfl | rfl | rfl
   ·exact UT (by decide) (rm hb hf)
   ·exact UT (by decide) (rC hb hf)
   ·exact UT (by decide) (uS hb)
  ·cases hx
 ·cases hx
def xh:List GA:=[GQ A3 [] yI]
theorem vL:Ci xh:= .cons rE .nil
abbrev ym:Ctx:=Bp Tryz.prog AI (Cv xh)
theorem ua (s k a b q:Int) (Q:Bm):CU ym (Ax xh) [] C9 [] 20 Q 3000 (st C9 [.agg ⟨[.int .u32 s,int k,int a,int b,int q]⟩] (hp []))=(
 let p:=IntKind.wrap IntKind.u64 q;let o:=q<=1099511627776;let n:=IntKind.wrap IntKind.u64 b;let l:=IntKind.wrap IntKind.u64 a;let h:=IntKind.wrap IntKind.u64 k;let f:=IntKind.wrap IntKind.u64 s;let m:=Ti 4 (IM f 4) h 1;let j:=Ti 5 (IM f 4++IM h 1) l 1;let i:=Int.instDecidableEq (Int.fdiv f (2 ^ min 32 (IntKind.bits IntKind.u64))) 0;let g:=Ti 6 (IM f 4++IM h 1++IM l 1) n 2;let e:=Ti 8 (IM f 4++IM h 1++IM l 1++IM n 2) p 8;let d:Prop:=Q (.tuple ⟨[(Ao 33 16),(int 0)]⟩) [some (.vec ([SK.int IntKind.u8]) (IM f 4++IM h 1++IM l 1++IM n 2++IM p 8) false)];let c:Prop:=Q (.tuple ⟨[(.slice none 0 0),(int 2)]⟩) [];(bif decide (k < 1)then c else(bif decide (k≥4)then c else(bif k==3 then(bif decide (a≥0)then(bif decide (a<=0)then(bif decide (b≥0)then(bif decide (b<=65535)then(bif decide (q≥0)then(bif decide o then((Decidable.rec (fun _=>false) (fun _=>true) i)=(true))/\m/\j/\g/\e/\d else c)else c)else c)else c)else c)else c)else(bif k==2 then(bif decide (a≥1)then(bif decide (a<=32)then(bif decide (b≥0)then(bif decide (b<=0)then(bif decide (q≥1)then(bif decide o then((Decidable.rec (fun _=>false) (fun _=>true) i)=(true))/\m/\j/\g/\e/\d else c)else c)else c)else c)else c)else c)else(bif k==1 then(bif decide (a≥1)then(bif decide (a<=32)then(bif decide (b≥0)then(bif decide (b<=512)then(bif decide (q≥1)then(bif decide o then((Decidable.rec (fun _=>false) (fun _=>true) i)=(true))/\m/\j/\g/\e/\d else c)else c)else c)else c)else c)else c)else(bif k==0 then(bif decide (a≥0)then(bif decide (a<=0)then(bif decide (b≥0)then(bif decide (b<=0)then(bif decide (q≥0)then(bif decide (q<=0)then((Decidable.rec (fun _=>false) (fun _=>true) i)=(true))/\m/\j/\g/\e/\d else c)else c)else c)else c)else c)else c)else False))))))):=by kernel_rfl
structure X8 (s k a b q:Int):Prop where
 s0:0<=s
 s1:s < 4294967296
 hk:k=1∨(k=2/\b=0)
 a0:1<=a
 a1:a<=32
 b0:0<=b
 b1:b<=512
 q0:1<=q
 q1:q<=1099511627776
def UD (s k a b q:Int):Ad:=IM s 4++IM k 1++IM a 1++IM b 2++IM q 8
theorem M9 {x:Int} (h0:0<=x) (h1:x < 18446744073709551616):IntKind.wrap .u64 x=x:=by
 simp[IntKind.wrap,IntKind.bits,IntKind.signed];omega
theorem fF {x:Int} {n:Nat} (h0:0<=x) (h1:x < 2 ^ n):(Int.fdiv x (2 ^ n)==0)=true:=by
 rw[ABI _ (Int.le_of_lt (by exact Int.pow_pos (by decide))),Int.ediv_eq_zero_of_lt h0 h1];rfl
theorem xw {x:Int} (h0:0<=x) (h1:x < 4294967296):Ro x 4=true:=by
 unfold Ro;rw[vZ];exact .inr (fF (n:=32) h0 h1)
theorem wV {x:Int} (h0:0<=x) (h1:x < 256):Ro x 1=true:=by
 unfold Ro;rw[vZ];exact .inr (fF (n:=8) h0 h1)
theorem ya {x:Int} (h0:0<=x) (h1:x < 65536):Ro x 2=true:=by
 unfold Ro;rw[vZ];exact .inr (fF (n:=16) h0 h1)
theorem JX (q:Int) (w:Nat):(IM q w).length=w:=by unfold IM;simp
theorem tF {s k a b q:Int} (h:X8 s k a b q):CU ym (Ax xh) [] C9 [] 20 (fun v os=>v= .tuple ⟨[Ao 33 16,int 0]⟩/\os=[some (.vec kB (UD s k a b q) false)]) 3000 (st C9 [.agg ⟨[.int .u32 s,int k,int a,int b,int q]⟩] (hp [])):=by
 obtain⟨s0,s1,hk,a0,a1,b0,b1,q0,q1⟩:=h;have k0:1<=k/\k<=2:=by omega
 have c1:Ti 4 (IM s 4) k 1:=⟨(JX s 4).symm,by decide,.inl rfl,wV (by omega) (by omega)⟩;have c2:Ti 5 (IM s 4++IM k 1) a 1:=⟨by simp only[Pq,JX],by decide,.inl rfl,wV (by omega) (by omega)⟩;have c3:Ti 6 (IM s 4++IM k 1++IM a 1) b 2:=⟨by simp only[Pq,JX],by decide,.inr (.inl rfl),ya (by omega) (by omega)⟩;have c4:Ti 8 (IM s 4++IM k 1++IM a 1++IM b 2) q 8:=⟨by simp only[Pq,JX],by decide,.inr (.inr rfl),rfl⟩;have c0:Ro s 4=true:=xw s0 s1;rw[ua];(conv=>zeta);rw[M9 (x:=s) (by omega) (by omega),M9 (x:=k) (by omega) (by omega),M9 (x:=a) (by omega) (by omega),M9 (x:=b) (by omega) (by omega),M9 (x:=q) (by omega) (by omega)]
 refine AY (fun g=>absurd g (by omega)) fun _=>AY (fun g=>absurd g (by omega)) fun _=>?_
 rcases hk with rfl | ⟨rfl,rfl⟩
 ·refine AZ rfl (AZ rfl (AB rfl ?_));exact AB (KE a0) (AB (KE a1) (AB (KE b0) (AB (KE b1) (AB (KE q0) (AB (KE q1) ⟨c0,c1,c2,c3,c4,rfl,rfl⟩)))))
 ·refine AZ rfl (AB rfl ?_);exact AB (KE a0) (AB (KE a1) (AB (KE b0) (AB (KE (by omega)) (AB (KE q0) (AB (KE q1) ⟨c0,c1,c2,c3,c4,rfl,rfl⟩)))))
def yH (args:AL) (objs:BN):GT:=match args,objs with
 | [.agg ⟨[.int .u32 s,.int .i64 k,.int .i64 a,.int .i64 b,.int .i64 q]⟩],[]=> .ask (X8 s k a b q) (.ret ⟨.tuple ⟨[Ao 20 16,int 0]⟩,[],[.vec kB (UD s k a b q) false]⟩)
 | _,_=> .fail
theorem oY:CY Tryz.prog AI C9 (Ai AI 20 [] yH):=by
 refine BF vL.all (by kernel_rfl) (n:=BD C9) (by kernel_rfl) (by kernel_rfl) fun argsc objs x hx hro=>?_
 clear hro;unfold yH at hx;split at hx
 ·rename_i s k a b q;simp only[GT.run]at hx;split at hx
  ·rename_i h;cases hx
   refine⟨BE (by kernel_rfl),Ak.mono (AX.Fh (BK vL.pf (by kernel_rfl) (tF h))) fun v H ⟨e,hos⟩=>?_⟩;subst e;have hos:[H.get 33]=_:=hos;simp only[Nh,iy]at hos;exact Rm (by decide) hos
  ·cases hx
 ·cases hx
end Go.AD
namespace Go.AD
open Go.Proofs
end Go.AD
namespace Go.AD
open Go.Proofs
def yD (acc x:Int) (sh:Nat):Int:=IntKind.wrap .u64 ((BitVec.toNat (BitVec.ofInt (IntKind.bits .u64) acc ||| BitVec.ofInt (IntKind.bits .u64) (IntKind.wrap .u64 (IntKind.wrap .u64 x * 2 ^ min sh (IntKind.bits .u64))))):Int)
def JU (g:Nat->Int):Nat->Int
 | 0=>0
 | w+1=>yD (JU g w) (g w) (8 * w)
def EC (l:Ad) (p t:Nat):Int:=l.getD (p+t) (EK.BL kB)
structure bW (l:Ad) (j n:Nat) (i w:Int):Prop where
 i0:0<=i
 i1:i+w<=n
 hl:j+n<=l.length
 hb:n < 100000
 hw:w=1∨w=2∨w=4∨w=8
end Go.AD
namespace Go.AD
open Go.Proofs
end Go.AD
namespace Go.AD
open Go.Proofs
theorem rP (v:As) (m:Int) (Q:Bm):CU X0 Cz [] Dk [] 20 Q 100 (st Dk [.string v,int m] (hp []))=(
 (bif decide (m < 0)then(Q (int 2) [])else(bif decide (m > 512)then(Q (int 2) [])else(bif decide (Int.ofNat v.size > m)then(Q (int 12) [])else(Q (int 0) []))))):=by kernel_rfl
def sV (args:AL) (objs:BN):GT:=match args,objs with
 | [.slice (some ⟨20,0,some j⟩) n 18446744073709551616,.int .u32 s],[.vec [.int .u8] l _]=> .ask (j+n<=l.length/\n < 1000000) (.ret ⟨.bool (Er 0 ((l.drop j).take n)==s),[],[]⟩)
 | _,_=> .fail
def J6 (v:As) (m:Int):Int:=bif decide (m < 0)||decide (m > 512)then 2 else bif decide (Int.ofNat v.size > m)then 12 else 0
def sS (args:AL) (objs:BN):GT:=match args,objs with
 | [.string v,.int .i64 m],[]=> .ret ⟨int (J6 v m),[],[]⟩
 | _,_=> .fail
theorem mV:CY Tryz.prog AI Dk (Ai AI 20 [] sS):=by
 refine BF (CO.nil _ _) (by kernel_rfl) (n:=BD Dk) (by kernel_rfl) (by kernel_rfl) fun argsc objs x hx hro=>?_
 clear hro;unfold sS at hx;split at hx
 ·rename_i v m;cases hx
  have hv:CU X0 Cz [] Dk [] 20 (fun w _=>w=int (J6 v m)) 100 (st Dk [.string v,int m] (hp [])):=by
   rw[rP];unfold J6;cases decide (m < 0)<;>cases decide (m > 512)<;>cases decide (Int.ofNat v.size > m)<;>exact rfl
  exact⟨BE (by kernel_rfl),Ak.mono (AX.Fh (BK (CB _) (by kernel_rfl) hv)) fun v H e=>by have e:v=_:=e;subst e;exact Ch rfl⟩
 ·cases hx
structure R7 where
 s:Int
 k:Int
 a:Int
 b:Int
 q:Int
def cd:R7:=⟨0,0,0,0,0⟩
def Nk (h:R7):Value:= .agg ⟨[.int .u32 h.s,int h.k,int h.a,int h.b,int h.q]⟩
def mQ (a b q a0 a1 b0 b1 q0 q1:Int):Bool:=decide (a≥a0)&&decide (a<=a1)&&decide (b≥b0)&&decide (b<=b1)&&decide (q≥q0)&&decide (q<=q1)
def Ex (h:R7):Bool:=bif decide (h.k < 1)then false else bif decide (h.k≥4)then false else
 bif h.k==3 then mQ h.a h.b h.q 0 0 0 65535 0 1099511627776 else bif h.k==2 then mQ h.a h.b h.q 1 32 0 0 1 1099511627776 else mQ h.a h.b h.q 1 32 0 512 1 1099511627776
def BS (l:Ad) (j:Nat):R7:=⟨IntKind.wrap .u32 (JU (EC l (j+0)) 4),IntKind.wrap .i64 (JU (EC l (j+4)) 1),IntKind.wrap .i64 (JU (EC l (j+5)) 1),IntKind.wrap .i64 (JU (EC l (j+6)) 2),IntKind.wrap .i64 (JU (EC l (j+8)) 8)⟩
structure Ge where
 ok:AL->Prop
 v:AL->Value
open Classical in
def Ge.F (q:Ge):DO:=fun args H=>if q.ok args then some (q.v args,H)else none
def Ge.p (q:Ge):HL:=fun args H K=>q.ok args/\K (q.v args) H
theorem Ge.xJ {q:Ge} {X:Ctx} {f:FuncId} (hX:X.IN f=some q.F) (args:AL) (H:AA) (K:Ih) (h:q.p args H K):∃v H',CP X f args .normal H=some (v,H')/\K v H':=by
 refine⟨q.v args,H,?_,h.2⟩;unfold CP;simp only[hX];unfold Ge.F;exact MB h.1
theorem Qp {f:FuncId} (he:entry Tryz.prog f=some (BD f,A9 Tryz.prog f [])) {q:Ge}
 (hF:∀args,q.ok args->args.all flat=true/\args.length<=BD f/\flat (q.v args)=true/\∃fs,CO Tryz.prog AI fs/\AX (Bp Tryz.prog AI fs) 20 f (fun v' _=>v'=q.v args) (st f args (hp []))):CY Tryz.prog AI f q.F:=by
 refine⟨⟨_,_,he⟩,?_⟩;intro base W0 μ H W args args' v H' hW hH hl ha hFv;unfold Ge.F at hFv;split at hFv
 ·rename_i hq;cases hFv
  obtain⟨h1,h2,h3,fs,hfs,h4⟩:=hF args hq;have hW1:Eb (Bp Tryz.prog AI fs) (base.at W) W:=by
   have:=hW.carry hH;unfold Eb at this ⊢;exact this
  obtain⟨s1,s2⟩:=QD (X:=Bp Tryz.prog AI fs) hW1 (none_le _) (fun _ hi=>hi) (n:=20) (Rt (by kernel_rfl));have s3:=s1.sub (H':=(hp [])) (fun b o e=>by cases e) (Hu _ _).symm;have hargs:args'.toList=args:=KG args _ h1 ha;intro cs;obtain⟨c',⟨v2,Hf,hd,rfl⟩,μ1,fr1,cs1,W1,st,m1⟩:=h4 (base.at W) W (fun b T hb=>by cases hb) (hfs.IN _ _ hW1) (Hl (by kernel_rfl) rfl) cs _ _ [] W (Kp s3 s2 he (by rw[hargs];exact Hy args h1) h2);obtain⟨rfl,hf,v',e1,e2,e3⟩:=KR m1 hd;have hs':Steps (Bp Tryz.prog AI fs).P (lone (Frame.enter (Bp Tryz.prog AI fs).P f args' .normal) cs W) (lone fr1 cs W1):=by simpa using st
  refine⟨.returned v',W1,fr1,⟨v',μ,rfl,hH.carry (Mo e2) e2.below e2.out e2.os,?_,Ap.refl _ _⟩,hs',hf,e1⟩;rw[LN h3 e3];exact D5 h3
 ·cases hFv
theorem bJ {X:Ctx} {f:FuncId} {p:HL} {rest:Pf} (h:∀args H (K:Ih),p args H K->∃v H',CP X f args .normal H=some (v,H')/\K v H') (hr:HO X rest):HO X (fun g=>bif Nat.beq g f then some p else rest g):=by
 intro g F hg args H K hF;cases hb:Nat.beq g f
 ·simp only[hb,EB]at hg;exact hr g F hg args H K hF
 ·simp only[hb,C8,C5]at hg;subst hg;have:=DN hb;subst this
  exact h args H K hF
end Go.AD
namespace Go.AD
def Ur (args:AL):C1:=match args with
 | [.string s,.int .i64 c]=>bif decide (0<=c)&&decide (c<=9223372036854775807)&&Nat.ble (s.size * c.toNat) 140737488355328 then some (.string ⟨⟨Go.Lib.repeatL s.data.toList c.toNat⟩⟩)else none
 | _=>none
def L3:DO:=fun args H=>match Ur args with | some v=>some (v,H) | none=>none
end Go.AD
namespace Go.AD
open Go.Proofs Go.Shelf Go.RowKit
theorem cS {P:Program} {laid:Co} {f:FuncId} (he:∃n c,entry P f=some (n,c)) {F:AL->C1}
 (h:∀args v,F args=some v->args.all flat=true/\flat v=true/\∀w,Calls P f args.toArray w fun e w'=>e= .returned v/\Below w.heap.size w w'):
 CY P laid f (fun args H=>match F args with | some v=>some (v,H) | none=>none):=by
 refine⟨he,?_⟩;intro base W0 μ H W args args' v H' _ hH _ ha hFv;have hFv:F args=some v/\H'=H:=by
  simp only at hFv;split at hFv
  ·rename_i v0 e;cases hFv;exact⟨e,rfl⟩
  ·cases hFv
 obtain⟨hFv2,rfl⟩:=hFv;obtain⟨h1,h2,h3⟩:=h args v hFv2;have hargs:args'=args.toArray:=by
  have:=KG args _ h1 ha;rw[<-this]
 rw[hargs];refine(h3 W).mono fun e W' ⟨e1,e2⟩=>⟨v,μ,e1,hH.carry e2.size (fun i hi=>e2.block i hi) e2.output e2.os,D5 h2,Ap.refl _ _⟩
theorem XY {P:Program} {laid:Co} {ρ:Shelf.Ren} (L:Lays.n105 P ρ) (X:Builder.Extra P ρ) {f:FuncId} (hf:ρ.f 105=f) (he:∃n c,entry P f=some (n,c)):CY P laid f L3:=by
 subst hf;refine cS he fun args v h=>?_
 unfold Ur at h;split at h
 ·rename_i s c;cases hb:(decide (0<=c)&&decide (c<=9223372036854775807)&&Nat.ble (s.size * c.toNat) 140737488355328)
  ·rw[hb]at h;cases h
  ·rw[hb]at h;cases h
   simp only[Dg,TL]at hb;obtain⟨⟨h1,h2⟩,h3⟩:=hb;refine⟨rfl,rfl,fun w=>?_⟩;have e:c=((c.toNat:Nat):Int):=by omega
   have:=Any.strings_Repeat L X s c.toNat w (by omega) (BE h3);rw[<-e]at this;exact this
 ·cases h
def AAG (n:Int):As:=⟨⟨Go.Lib.decDigits n.toNat⟩⟩
open Classical in
def AAH:DO:=fun args H=>match args with
 | [.int .i64 n]=>if 0<=n/\n<=9223372036854775807 then some (.string (AAG n),H)else none
 | _=>none
def wx:AL->Option (List As)
 | []=>some []
 | .string s::r=>match wx r with
  | some l=>some (s::l)
  | none=>none
 | _::_=>none
def Ot:HL:=fun args H K=>match args with
 | [.string s,.int .i64 c]=>(0<=c/\c<=9223372036854775807/\s.size * c.toNat<=140737488355328)/\K (.string ⟨⟨Go.Lib.repeatL s.data.toList c.toNat⟩⟩) H
 | _=>False
theorem We {X:Ctx} {f:FuncId} (hX:X.IN f=some L3) {args:AL} {H:AA} {K:Ih} (h:Ot args H K):∃v H',CP X f args .normal H=some (v,H')/\K v H':=by
 unfold Ot at h;split at h
 ·rename_i s c;refine⟨_,_,?_,h.2⟩;unfold CP;simp only[hX];unfold L3 Ur;have hc:(decide (0<=c)&&decide (c<=9223372036854775807)&&Nat.ble (s.size * c.toNat) 140737488355328)=true:=by
   simp only[Dg,TL];exact⟨⟨h.1.1,h.1.2.1⟩,Ez h.1.2.2⟩
  simp only[hc,C8]
 ·cases h
end Go.AD
namespace Go.AD
open Go.Proofs Go.Shelf Go.RowKit
end Go.AD
namespace Go.AD
open Go.Proofs Go.Shelf Go.RowKit
def isNum (s:As):Bool:=match Go.Lib.atoiAll s.data.toList with
 | .ok _=>true
 | _=>false
def tU (s:As):Int:=match Go.Lib.atoiAll s.data.toList with
 | .ok v=>v
 | _=>0
def yS (T:TypeId):DO:=fun args H=>match args with
 | [.string s]=>bif Nat.ble s.size 100000 then
  (bif isNum s then some (.tuple ⟨[.int .i64 (tU s),.nilIface]⟩,H)else some (.tuple ⟨[Bv,.iface T Bv]⟩,H))else none
 | _=>none
def wY (n:Int):As:=⟨(Go.Lib.itoa n).toArray⟩
open Classical in
def yR:DO:=fun args H=>match args with
 | [.int .i64 n]=>if -9223372036854775808<=n/\n<=9223372036854775807 then some (.string (wY n),H)else none
 | _=>none
def tX (s:As) (c:Int):Int:=Go.Lib.indexByte s.data.toList c.toNat.toUInt8
def fT:AL->C1
 | [.string s,.int .u8 c]=>some (.int .i64 (tX s c))
 | _=>none
def Vc:DO:=fun args H=>match fT args with | some v=>some (v,H) | none=>none
theorem j8 {P:Program} {laid:Co} {ρ:Shelf.Ren} (L:Lays.n137 P ρ) {f:FuncId} (hf:ρ.f 137=f) (he:∃n c,entry P f=some (n,c)):CY P laid f Vc:=by
 subst hf;refine cS he fun args v h=>?_
 unfold fT at h;split at h
 ·rename_i s c;cases h
  refine⟨rfl,rfl,fun w=>?_⟩;refine(Any.strings_IndexByte L s c w).mono fun e w' ⟨h1,h2⟩=>⟨h1,?_⟩
  rw[h2];exact Below.refl _ _
 ·cases h
end Go.AD
namespace Go.AD
open Go.Proofs
abbrev lets:As:={ data:=#[45,46,48,49,50,51,52,53,54,55,56,57,95,97,98,99,100,101,102,103,104,105,106,107,108,109,110,111,112,113,114,115,116,117,118,119,120,121,122] }
abbrev sf:List (FuncId × DO):=[(Dz,Vc)]
def jt:Ctx:=Bp Tryz.prog AI sf
structure Rb (s:As) (c:Int):Prop where
 no:tX s c= -1
def V0:HL:=fun args H K=>match args with
 | [.string s,.int .u8 c]=>Rb s c/\K (.int .i64 (.negSucc 0)) H
 | _=>False
def jX:Pf:=fun g=>bif Nat.beq g Dz then some V0 else Cz g
def wt (r:Nat):Bool:=decide (0<=tX lets r)
theorem fN (Q:Bm):(List.range 128).map (fun r=>pz jt Cz An [] Q 600 (st An [.string lets,.int .i32 (Int.ofNat r)] (hp [])))=(List.range 128).map (fun r=>Q (.bool (wt r)) []):=by kernel_rfl
theorem kJ (r:Int) (Q:Bm):pz jt jX An [] Q 210 (st An [.string lets,.int .i32 r] (hp []))=(
 let p:=r<=1114111;let l:Prop:=Q (.bool true) [];let g:Prop:=Q (.bool false) [];let d:=Utf8.encode r;let a:=Int.ofNat d.size - 1;let o:=IntKind.wrap .i64 a - 3;let q:=IntKind.wrap .i64 o;let m:=IntKind.wrap .i64 a < 39;let k:=IntKind.wrap .i64 a - 1;let j:=IntKind.wrap .i64 a - 2;let i:=IntKind.wrap .i64 a+1;let n:=IntKind.wrap .i64 i;let f:=IntKind.wrap .i64 a;let h:=Rb (ByteArray.extract lets n.toNat 39) (B4 d f.toNat);let e:=IntKind.wrap .i64 (IntKind.wrap .i64 a - IntKind.wrap .i64 a)≥0;let c:=IntKind.wrap .i64 j;let b:=IntKind.wrap .i64 k;(bif decide (0<=r)then(bif decide (r < 128)then(Rb lets (IntKind.wrap IntKind.u8 r))/\g else(bif r==65533 then False else(bif decide (0<=r)then(bif decide (r < 55296)then(bif decide m then(bif decide (0<=IntKind.wrap .i64 a)&&Nat.blt f.toNat lets.size then(bif decide (0<=IntKind.wrap .i64 a)&&Nat.blt f.toNat d.size then(bif B4 lets f.toNat != B4 d f.toNat then(bif decide (0<=39)&&Nat.ble 39 lets.size&&decide (0<=IntKind.wrap .i64 i)&&Nat.ble n.toNat 39 then(bif decide (0<=IntKind.wrap .i64 a)&&Nat.blt f.toNat d.size then h/\g else False)else False)else(bif decide (1 < Int.ofNat d.size)then(bif decide (0<=IntKind.wrap .i64 k)&&Nat.blt b.toNat lets.size then(bif decide (0<=IntKind.wrap .i64 k)&&Nat.blt b.toNat d.size then(bif B4 lets b.toNat != B4 d b.toNat then False else(bif decide (2 < Int.ofNat d.size)then(bif decide (0<=IntKind.wrap .i64 j)&&Nat.blt c.toNat lets.size then(bif decide (0<=IntKind.wrap .i64 j)&&Nat.blt c.toNat d.size then(bif B4 lets c.toNat != B4 d c.toNat then False else(bif decide (3 < Int.ofNat d.size)then(bif decide (0<=IntKind.wrap .i64 o)&&Nat.blt q.toNat lets.size then False else False)else False))else False)else False)else(bif decide e then l else g)))else False)else False)else(bif decide e then l else g)))else False)else False)else g)else(bif decide (57343 < r)then(bif decide p then(bif decide m then(bif decide (0<=IntKind.wrap .i64 a)&&Nat.blt f.toNat lets.size then(bif decide (0<=IntKind.wrap .i64 a)&&Nat.blt f.toNat d.size then(bif B4 lets f.toNat != B4 d f.toNat then(bif decide (0<=39)&&Nat.ble 39 lets.size&&decide (0<=IntKind.wrap .i64 i)&&Nat.ble n.toNat 39 then(bif decide (0<=IntKind.wrap .i64 a)&&Nat.blt f.toNat d.size then h/\g else False)else False)else(bif decide (1 < Int.ofNat d.size)then(bif decide (0<=IntKind.wrap .i64 k)&&Nat.blt b.toNat lets.size then(bif decide (0<=IntKind.wrap .i64 k)&&Nat.blt b.toNat d.size then(bif B4 lets b.toNat != B4 d b.toNat then False else(bif decide (2 < Int.ofNat d.size)then(bif decide (0<=IntKind.wrap .i64 j)&&Nat.blt c.toNat lets.size then(bif decide (0<=IntKind.wrap .i64 j)&&Nat.blt c.toNat d.size then(bif B4 lets c.toNat != B4 d c.toNat then False else(bif decide (3 < Int.ofNat d.size)then False else False))else False)else False)else(bif decide e then l else g)))else False)else False)else(bif decide e then l else g)))else False)else False)else g)else g)else g))else(bif decide (57343 < r)then(bif decide p then(bif decide m then(bif decide (0<=IntKind.wrap .i64 a)&&Nat.blt f.toNat lets.size then(bif decide (0<=IntKind.wrap .i64 a)&&Nat.blt f.toNat d.size then(bif B4 lets f.toNat != B4 d f.toNat then(bif decide (0<=39)&&Nat.ble 39 lets.size&&decide (0<=IntKind.wrap .i64 i)&&Nat.ble n.toNat 39 then(bif decide (0<=IntKind.wrap .i64 a)&&Nat.blt f.toNat d.size then h/\g else False)else False)else(bif decide (1 < Int.ofNat d.size)then(bif decide (0<=IntKind.wrap .i64 k)&&Nat.blt b.toNat lets.size then(bif decide (0<=IntKind.wrap .i64 k)&&Nat.blt b.toNat d.size then(bif B4 lets b.toNat != B4 d b.toNat then False else(bif decide (2 < Int.ofNat d.size)then(bif decide (0<=IntKind.wrap .i64 j)&&Nat.blt c.toNat lets.size then(bif decide (0<=IntKind.wrap .i64 j)&&Nat.blt c.toNat d.size then(bif B4 lets c.toNat != B4 d c.toNat then False else(bif decide (3 < Int.ofNat d.size)then False else False))else False)else False)else(bif decide e then l else g)))else False)else False)else(bif decide e then l else g)))else False)else False)else g)else g)else g))))else(bif r==65533 then False else(bif decide (0<=r)then(bif decide (r < 55296)then(bif decide m then(bif decide (0<=IntKind.wrap .i64 a)&&Nat.blt f.toNat lets.size then(bif decide (0<=IntKind.wrap .i64 a)&&Nat.blt f.toNat d.size then(bif B4 lets f.toNat != B4 d f.toNat then(bif decide (0<=39)&&Nat.ble 39 lets.size&&decide (0<=IntKind.wrap .i64 i)&&Nat.ble n.toNat 39 then(bif decide (0<=IntKind.wrap .i64 a)&&Nat.blt f.toNat d.size then h/\g else False)else False)else(bif decide (1 < Int.ofNat d.size)then(bif decide (0<=IntKind.wrap .i64 k)&&Nat.blt b.toNat lets.size then(bif decide (0<=IntKind.wrap .i64 k)&&Nat.blt b.toNat d.size then(bif B4 lets b.toNat != B4 d b.toNat then False else(bif decide (2 < Int.ofNat d.size)then(bif decide (0<=IntKind.wrap .i64 j)&&Nat.blt c.toNat lets.size then(bif decide (0<=IntKind.wrap .i64 j)&&Nat.blt c.toNat d.size then(bif B4 lets c.toNat != B4 d c.toNat then False else(bif decide (3 < Int.ofNat d.size)then(bif decide (0<=IntKind.wrap .i64 o)&&Nat.blt q.toNat lets.size then False else False)else False))else False)else False)else(bif decide e then l else g)))else False)else False)else(bif decide e then l else g)))else False)else False)else g)else(bif decide (57343 < r)then(bif decide p then(bif decide m then(bif decide (0<=IntKind.wrap .i64 a)&&Nat.blt f.toNat lets.size then(bif decide (0<=IntKind.wrap .i64 a)&&Nat.blt f.toNat d.size then(bif B4 lets f.toNat != B4 d f.toNat then(bif decide (0<=39)&&Nat.ble 39 lets.size&&decide (0<=IntKind.wrap .i64 i)&&Nat.ble n.toNat 39 then(bif decide (0<=IntKind.wrap .i64 a)&&Nat.blt f.toNat d.size then h/\g else False)else False)else(bif decide (1 < Int.ofNat d.size)then(bif decide (0<=IntKind.wrap .i64 k)&&Nat.blt b.toNat lets.size then(bif decide (0<=IntKind.wrap .i64 k)&&Nat.blt b.toNat d.size then(bif B4 lets b.toNat != B4 d b.toNat then False else(bif decide (2 < Int.ofNat d.size)then(bif decide (0<=IntKind.wrap .i64 j)&&Nat.blt c.toNat lets.size then(bif decide (0<=IntKind.wrap .i64 j)&&Nat.blt c.toNat d.size then(bif B4 lets c.toNat != B4 d c.toNat then False else(bif decide (3 < Int.ofNat d.size)then False else False))else False)else False)else(bif decide e then l else g)))else False)else False)else(bif decide e then l else g)))else False)else False)else g)else g)else g))else(bif decide (57343 < r)then(bif decide p then(bif decide m then(bif decide (0<=IntKind.wrap .i64 a)&&Nat.blt f.toNat lets.size then(bif decide (0<=IntKind.wrap .i64 a)&&Nat.blt f.toNat d.size then(bif B4 lets f.toNat != B4 d f.toNat then(bif decide (0<=39)&&Nat.ble 39 lets.size&&decide (0<=IntKind.wrap .i64 i)&&Nat.ble n.toNat 39 then(bif decide (0<=IntKind.wrap .i64 a)&&Nat.blt f.toNat d.size then h/\g else False)else False)else(bif decide (1 < Int.ofNat d.size)then(bif decide (0<=IntKind.wrap .i64 k)&&Nat.blt b.toNat lets.size then(bif decide (0<=IntKind.wrap .i64 k)&&Nat.blt b.toNat d.size then(bif B4 lets b.toNat != B4 d b.toNat then False else(bif decide (2 < Int.ofNat d.size)then(bif decide (0<=IntKind.wrap .i64 j)&&Nat.blt c.toNat lets.size then(bif decide (0<=IntKind.wrap .i64 j)&&Nat.blt c.toNat d.size then(bif B4 lets c.toNat != B4 d c.toNat then False else(bif decide (3 < Int.ofNat d.size)then False else False))else False)else False)else(bif decide e then l else g)))else False)else False)else(bif decide e then l else g)))else False)else False)else g)else g)else g))))):=by kernel_rfl
theorem fK (Q:Bm):pz jt Cz An [] Q 3000 (st An [.string lets,.int .i32 65533] (hp []))=Q (.bool false) []:=by kernel_rfl
theorem XN (c:UInt8):∀(l:List UInt8),c∉l->Go.Lib.indexByte l c= -1
 | [],_=>rfl
 | b::l,h=>by
  have h1:(b==c)=false:=by rw[oH];exact fun e=>h (by simp[e])
  rw[Go.Lib.indexByte,h1,XN c l (fun e=>h (oo _ e))];rfl
theorem Vf {n:Nat} (h1:128<=n) (h2:n < 256):128<=(UInt8.ofNat n).toNat:=by
 rw[UInt8.toNat_ofNat'];omega
theorem q9 {r:Int} (h:128<=r):∃m,(Utf8.encode r).size=m/\2<=m/\m<=4/\128<=B4 (Utf8.encode r) (m - 1)/\B4 (Utf8.encode r) (m - 1) < 256:=by
 have hlt:∀m,B4 (Utf8.encode r) m < 256:=fun m=>by
  unfold B4;have:=((Utf8.encode r).data.toList.getD m 0).toNat_lt;omega
 suffices hh:∃m,(Utf8.encode r).size=m/\2<=m/\m<=4/\128<=B4 (Utf8.encode r) (m - 1) by
  obtain⟨m,a,b,c,d⟩:=hh;exact⟨m,a,b,c,d,hlt _⟩
 have hc:128<=(if Utf8.valid r then r.toNat else Utf8.runeError):=by
  split
  ·omega
  ·decide
 unfold Utf8.encode;simp only;generalize (if Utf8.valid r then r.toNat else Utf8.runeError)=c at hc;have b:∀(n:Nat),(128:Int)<=((UInt8.ofNat (0x80+n % 64)).toNat:Int):=fun n=>by
  have:=Vf (n:=0x80+n % 64) (by omega) (by omega);omega
 rw[JT (by omega)];split
 ·exact⟨2,rfl,by omega,by omega,b c⟩
 ·split
  ·exact⟨3,rfl,by omega,by omega,b c⟩
  ·exact⟨4,rfl,by omega,by omega,b c⟩
theorem aV:∀b∈lets.data.toList,b.toNat < 128:=by decide
theorem nT (i:Nat):B4 lets i < 128:=by
 unfold B4;rw[Kd];cases h:lets.data.toList[i]? with
 | none=>decide
 | some b=>
  have:=aV b (cA h);show((b.toNat:Nat):Int) < 128;omega
theorem VQ {c:Int} (h1:128<=c) (h2:c < 256) (a b:Nat):Rb (lets.extract a b) c:=by
 refine⟨XN _ _ fun hm=>?_⟩;have hm2:c.toNat.toUInt8∈lets.data.toList:=by
  have e:(lets.extract a b).data.toList=(lets.data.toList.drop a).take (b - a):=by
   rw[ABU,ABb,ABJ]
  rw[e]at hm;exact yO (AAa hm)
 have:=aV _ hm2;have e2:(c.toNat.toUInt8).toNat=c.toNat:=by
  show(UInt8.ofNat c.toNat).toNat=_;rw[UInt8.toNat_ofNat'];omega
 omega
theorem ow {a b:Int} (h:a≠b):(a != b)=true:=by
 rw[bne_iff_ne];exact h
theorem beq_false {a b:Int} (h:a≠b):(a==b)=false:=by rw[oH];exact h
def Qi (r:Nat):Bool:=if r < 128 then wt r else false
theorem l8 {r:Int} (h1:128<=r) (h2:r≠65533):pz jt jX An [] (fun v _=>v= .bool false) 210 (st An [.string lets,.int .i32 r] (hp [])):=by
 rw[kJ];(conv=>zeta)
 obtain⟨m,hm,hm1,hm2,hl,hl2⟩:=q9 h1;have key:∀i,(B4 lets i != B4 (Utf8.encode r) (m - 1))=true:=fun i=>ow (by have:=nT i;omega)
 rw[hm];rw[beq_false h2];have hq:(fun(v:Value) (_:LR)=>v= .bool false) (.bool false) []:=rfl;have hnb:∀a b,Rb (lets.extract a b) (B4 (Utf8.encode r) (m - 1)):=fun a b=>VQ hl hl2 a b
 rcases(show m=2∨m=3∨m=4 by omega)with rfl | rfl | rfl
 ·have w:IntKind.wrap .i64 (Int.ofNat 2 - 1)=1:=by decide
  rw[w]
  repeat' first
   | exact hq
   | omega
   | refine AY (fun _=>?_) (fun _=>?_)
   | refine And.intro (hnb _ _) ?_
   | refine AB (key _) ?_
   | refine AB (by decide) ?_
   | refine AZ rfl ?_
 ·have w:IntKind.wrap .i64 (Int.ofNat 3 - 1)=2:=by decide
  rw[w]
  repeat' first
   | exact hq
   | omega
   | refine AY (fun _=>?_) (fun _=>?_)
   | refine And.intro (hnb _ _) ?_
   | refine AB (key _) ?_
   | refine AB (by decide) ?_
   | refine AZ rfl ?_
 ·have w:IntKind.wrap .i64 (Int.ofNat 4 - 1)=3:=by decide
  rw[w]
  repeat' first
   | exact hq
   | omega
   | refine AY (fun _=>?_) (fun _=>?_)
   | refine And.intro (hnb _ _) ?_
   | refine AB (key _) ?_
   | refine AB (by decide) ?_
   | refine AZ rfl ?_
def Z6:Ge where
 ok:=fun args=>match args with
  | [.string s,.int .i32 (.ofNat _)]=>s=lets
  | _=>False
 v:=fun args=>match args with
  | [.string _,.int .i32 (.ofNat r)]=> .bool (Qi r)
  | _=>Bv
structure fy (s:As):Prop where
 eq:s=lets
def qJ:HL:=fun args H K=>match args with
 | [.string s,.int .i32 (.ofNat r)]=>fy s/\K (.bool (Qi r)) H
 | _=>False
abbrev yU:List (FuncId × DO):=[(An,Z6.F)]
def um:Ctx:=Bp Tryz.prog AI yU
def sO:Pf:=fun g=>bif Nat.beq g An then some qJ else Cz g
def vC (s:As) (p:Nat):BT:=
 ⟨⟨CK,EZ [(0,.string s),(6,.pointer (some ⟨20,0,none⟩))],20,[.code (A9 Tryz.prog CK [1,0,1,0,0]),.inLoop (A9 Tryz.prog CK [1,0,1,0,0]),.inBlock 0,.code (A9 Tryz.prog CK [1,1])],[],false,.normal,none⟩,[],(hp []).alloc (.Ca s p)⟩
def wP:Stop:=⟨CK,0,3,20,[],[0,6]⟩
theorem sA (s:As) (Q:Bm) (R:Bz):xt um sO CK [] wP Q R 200 (st CK [.string s] (hp []))=(
 (R (vC s 0))):=by kernel_rfl
theorem qG (s:As) (p:Nat) (Q:Bm) (R:Bz):xt um sO CK [] wP Q R 200 (vC s p)=(
 (bif Nat.blt p s.size then(fy { data:=#[45,46,48,49,50,51,52,53,54,55,56,57,95,97,98,99,100,101,102,103,104,105,106,107,108,109,110,111,112,113,114,115,116,117,118,119,120,121,122] })/\(bif Qi (Utf8.decode s p).1 then(R (vC s (p+(Utf8.decode s p).2)))else(Q (int 2) []))else(bif ByteArray.toList s==ByteArray.toList { data:=#[] } then(Q (int 2) [])else(bif decide (Int.ofNat s.size > 32)then(Q (int 12) [])else(Q (int 0) []))))):=by kernel_rfl
theorem kN:HO jt jX:=by
 refine bJ (fun args H K h=>?_) (CB _);unfold V0 at h;split at h
 ·rename_i s c;have hX:jt.IN Dz=some Vc:=rfl;unfold CP;simp only[hX];unfold Vc fT;refine⟨_,_,rfl,?_⟩;rw[h.1.no];exact h.2
 ·exact h.elim
theorem eP (r:Nat):AX jt 20 An (fun v _=>v= .bool (Qi r)) (st An [.string lets,.int .i32 (Int.ofNat r)] (hp [])):=by
 rcases U1 r 128 with h | h
 ·have e:=List.map_inj_left.1 (fN fun v _=>v= .bool (wt r)) r (List.mem_range.2 h);have hv:pz jt Cz An [] (fun v _=>v= .bool (wt r)) 600 (st An [.string lets,.int .i32 (Int.ofNat r)] (hp [])):=by rw[e]
  have ho:Qi r=wt r:=by unfold Qi;rw[MB h]
  rw[ho];exact(Yo (CB jt) 600 _ hv).Uf
 ·have ho:Qi r=false:=by unfold Qi;rw[JT (by omega)]
  rw[ho]
  by_cases h2:r=65533
  ·subst h2;have hv:pz jt Cz An [] (fun v _=>v= .bool false) 3000 (st An [.string lets,.int .i32 65533] (hp [])):=by rw[fK]
   exact(Yo (CB jt) 3000 _ hv).Uf
  ·exact(Yo kN 210 _ (l8 (r:=Int.ofNat r) (by show(128:Int)<=(r:Int);omega) (fun e=>h2 (by have e:(r:Int)=65533:=e;omega)))).Uf
theorem iG (hfs:CO Tryz.prog AI sf):CY Tryz.prog AI An Z6.F:=by
 refine Qp (by kernel_rfl) fun args h=>?_
 unfold Z6 at h;simp only at h;split at h
 ·rename_i s r;subst h;exact⟨rfl,BE (by kernel_rfl),rfl,_,hfs,eP r⟩
 ·exact h.elim
theorem UW:HO um sO:=by
 refine bJ (fun args H K h=>?_) (CB _);unfold qJ at h;split at h
 ·exact Ge.xJ (q:=Z6) (X:=um) (f:=An) rfl _ H K ⟨h.1.eq,h.2⟩
 ·exact h.elim
theorem ZA (s:As) (i:Nat):0 < (Utf8.decode s i).2:=by
 unfold Utf8.decode;simp only
 repeat' split
 all_goals exact Nat.succ_pos _
def nW:Nat->As->Nat->Bool
 | 0,_,_=>true
 | n+1,s,p=>bif Nat.blt p s.size then(bif Qi (Utf8.decode s p).1 then nW n s (p+(Utf8.decode s p).2)else false)else true
def Oz (s:As):Int:=bif ByteArray.toList s==ByteArray.toList { data:=#[] } then 2 else bif decide (Int.ofNat s.size > 32)then 12 else 0
def I1 (s:As):Int:=bif nW s.size s 0 then Oz s else 2
theorem mP (s:As):∀(n p:Nat),s.size - p<=n->AX um 20 CK (fun v _=>v= .int .i64 (bif nW n s p then Oz s else 2)) (vC s p):=by
 intro n;induction n with
 | zero=>
  intro p hp;refine Y6 UW (ids:=[]) (S:=wP) (by kernel_rfl) (Q:=fun v _=>v= .int .i64 (Oz s)) (R:=fun _=>False) (fun v H h=>h) (fun c h=>h.elim) 200 _ ?_;rw[qG];have hb:Nat.blt p s.size=false:=by
   cases h:Nat.blt p s.size
   ·rfl
   ·have:p < s.size:=BE h;omega
  rw[hb];unfold Oz;cases (ByteArray.toList s==ByteArray.toList { data:=#[] })<;>cases decide (Int.ofNat s.size > 32)<;>rfl
 | succ n ih=>
  intro p hp;refine Y6 UW (ids:=[]) (S:=wP) (by kernel_rfl) (Q:=fun v _=>v= .int .i64 (bif nW (n+1) s p then Oz s else 2)) (R:=fun c=>nW (n+1) s p=nW n s (p+(Utf8.decode s p).2)/\Nat.blt p s.size=true/\c=vC s (p+(Utf8.decode s p).2)) (fun v H h=>h) (fun c h=>?_) 200 _ ?_
  ·rw[h.1,h.2.2];have hlt:p < s.size:=BE h.2.1;have:=ZA s p;exact ih _ (by omega)
  ·rw[qG];have hk:nW (n+1) s p=bif Nat.blt p s.size then(bif Qi (Utf8.decode s p).1 then nW n s (p+(Utf8.decode s p).2)else false)else true:=rfl
   rw[hk];unfold Oz;cases Nat.blt p s.size
   ·cases (ByteArray.toList s==ByteArray.toList { data:=#[] })<;>cases decide (Int.ofNat s.size > 32)<;>rfl
   ·refine⟨⟨rfl⟩,?_⟩;cases Qi (Utf8.decode s p).1
    ·rfl
    ·exact⟨rfl,rfl,rfl⟩
theorem lx (s:As):AX um 20 CK (fun v _=>v= .int .i64 (I1 s)) (st CK [.string s] (hp [])):=by
 refine Y6 UW (ids:=[]) (S:=wP) (by kernel_rfl) (Q:=fun _ _=>False) (R:=fun c=>c=vC s 0) (fun v H h=>h.elim) (fun c h=>?_) 200 _ ?_
 ·rw[h];exact mP s s.size 0 (by omega)
 ·rw[sA]
def Sq:Ge where
 ok:=fun args=>match args with
  | [.string _]=>True
  | _=>False
 v:=fun args=>match args with
  | [.string s]=> .int .i64 (I1 s)
  | _=>Bv
theorem iB (hfs:CO Tryz.prog AI sf):CY Tryz.prog AI CK Sq.F:=by
 refine Qp (by kernel_rfl) fun args h=>?_
 unfold Sq at h;simp only at h;split at h
 ·rename_i s;exact⟨rfl,BE (by kernel_rfl),rfl,_,.cons (iG hfs) (CO.nil _ _),lx s⟩
 ·exact h.elim
theorem uY {P:Program} {f:FuncId} (h:(entry P f).isSome=true):∃n c,entry P f=some (n,c):=by
 cases he:entry P f with
 | none=>rw[he]at h;cases h
 | some p=>exact⟨p.1,p.2,rfl⟩
theorem mS:CY Tryz.prog AI Dz Vc:=j8 Tryz.jq (by kernel_rfl) (uY (by kernel_rfl))
theorem XX:CY Tryz.prog AI CK Sq.F:=iB (.cons mS (CO.nil _ _))
def kv:HL:=fun args H K=>match args with
 | [.string s]=>K (.int .i64 (I1 s)) H
 | _=>False
def gM:GA:=(CK,Sq.F,kv)
theorem aD:Xf Sq.F kv:=fun X f hX args H K h=>by
 unfold kv at h;split at h
 ·exact Ge.xJ (q:=Sq) (X:=X) (f:=f) hX _ H K ⟨trivial,h⟩
 ·exact h.elim
def xj:List GA:=[gM,GQ Dk [] sS]
theorem vS:Ci xj:= .other XX aD (.cons mV .nil)
abbrev yh:Ctx:=Bp Tryz.prog AI (Cv xj)
def R9 (k q:Int) (a b:As):Value:= .agg ⟨[int k,.int .i64 q,.string a,.string b]⟩
theorem uc (k q:Int) (a b:As) (Q:Bm):CU yh (Ax xj) [] Cg [] 20 Q 600 (st Cg [R9 k q a b] (hp []))=(
 let e:=q > 1099511627776;let d:Prop:=Q (int 0) [];let c:Prop:=Q (int 2) [];(bif k != 1 then(bif k != 2 then c else(bif decide (q < 1)then c else(bif decide e then c else(bif I1 a != 0 then c else(bif J6 b 512 != 0 then c else(bif k==2 then(bif !ByteArray.toList b==ByteArray.toList { data:=#[] } then c else d)else d))))))else(bif decide (q < 1)then c else(bif decide e then c else(bif I1 a != 0 then c else(bif J6 b 512 != 0 then c else(bif k==2 then(bif !ByteArray.toList b==ByteArray.toList { data:=#[] } then c else d)else d))))))):=by kernel_rfl
def Jf (b:As):Bool:=ByteArray.toList b==ByteArray.toList { data:=#[] }
def DR (k q:Int) (a b:As):Bool:=(k==1||(k==2&&Jf b))&& !decide (q < 1)&& !decide (q > 1099511627776)&&(I1 a==0)&&(J6 b 512==0)
def tP (args:AL) (objs:BN):GT:=match args,objs with
 | [.slice (some ⟨20,0,some j⟩) n 18446744073709551616],[.vec [.int .u8] l _]=> .ask (j+n<=l.length/\n < 100000) (.test (decide (Int.ofNat n < 16)) (.ret ⟨.tuple ⟨[Nk cd,int 14]⟩,[],[]⟩)
  (.test (Ex (BS l j)) (.ret ⟨.tuple ⟨[Nk (BS l j),int 0]⟩,[],[]⟩) (.ret ⟨.tuple ⟨[Nk cd,int 8]⟩,[],[]⟩)))
 | _,_=> .fail
def w7 (f:FuncId) (muts:List Bool) (G G':AL->BN->GT):GA:=(f,Ai AI 20 muts G,Cs AI 20 muts G')
theorem Ci.OG {f:FuncId} {muts:List Bool} {G G':AL->BN->GT} {l:List GA} (h:CY Tryz.prog AI f (Ai AI 20 muts G)) (hG:∀a o x,(G' a o).run=some x->(G a o).run=some x) (t:Ci l):Ci (w7 f muts G G'::l):=by
 refine .other h (fun X g hX args H K hk=>?_) t;have hctx:(⟨X.P,X.laid,fun _=>some (Ai AI 20 muts G'),X.BJ⟩:Ctx).IN g=some (Ai AI 20 muts G'):=rfl;obtain⟨v,H',h1,h2⟩:=Gq hctx hk;refine⟨v,H',?_,h2⟩;unfold CP at h1 ⊢;simp only[hX]at h1 ⊢;exact LL hG h1
def kf (args:AL) (objs:BN):GT:=match args,objs with
 | [.agg ⟨[.int .i64 k,.int .i64 q,.string a,.string b]⟩],[]=> .test (DR k q a b) (.ret ⟨int 0,[],[]⟩) (.ret ⟨int 2,[],[]⟩)
 | _,_=> .fail
def xd:List GA:=[GQ Cg [] kf]
abbrev yj:Ctx:=Bp Tryz.prog AI (Cv xd)
theorem mY (k q:Int) (a b:As) (s o:Int) (Q:Bm):CU yj (Ax xd) [] Cy [] 20 Q 600 (st Cy [R9 k q a b,int s,int o] (hp []))=(
 let d:=int (IntKind.wrap .i64 (IntKind.wrap .i64 (16+Int.ofNat a.size)+Int.ofNat b.size));let c:Prop:=Q (.tuple ⟨[(.agg ⟨[(int 0),(.string ({ data:=#[] })),(.bool false),(int 0),(int 0),(int 0)]⟩),(int 2)]⟩) [];(bif DR k q a b then(bif decide (s < 0)then c else(bif decide (s≥32)then c else(bif decide (o < 0)then c else(bif decide (o > 8192)then c else(bif k==2 then(Q (.tuple ⟨[(.agg ⟨[(int q),(.string a),(.bool true),(int s),(int o),d]⟩),(int 0)]⟩) [])else(Q (.tuple ⟨[(.agg ⟨[(int q),(.string a),(.bool false),(int s),(int o),d]⟩),(int 0)]⟩) []))))))else c)):=by kernel_rfl
def vY:List GA:=[GQ Cg [] kf,GQ C9 [] yH,GQ F3 [] pD]
abbrev yL:Ctx:=Bp Tryz.prog AI (Cv vY)
theorem aQ (k q:Int) (a b:As) (Q:Bm):CU yL (Ax vY) [] CS [] 20 Q 900 (st CS [R9 k q a b] (hp []))=(
 let l:Value:= .pointer (some ⟨20,3,none⟩);let g:=Int.ofNat b.size;let f:=Int.ofNat a.size;let j:=List.take 16 (List.drop 0 (UD 0 k f g q))++B1 a;let d:=Int.ofNat (16+a.size+b.size);let i:=d.toNat - 16;let e:=Int.ofNat (16+i);let c:=List.take (16+a.size) (List.drop 0 j)++B1 b;let h:=Er 0 (List.take (d.toNat - 4) (List.drop 4 c));(bif DR k q a b then(X8 0 k f g q)/\(bif true&&Nat.ble 16 (UD 0 k f g q).length&&BQ 1 (16+a.size)then(((.string b):Value)=(.string b))/\((l:Value)=l)/\(bif true&&Nat.ble (0+(16+a.size)) j.length&&BQ 1 (16+a.size+b.size)then(bif decide (0<=Int.ofNat (16+a.size+b.size))&&Nat.ble d.toNat (16+a.size+b.size)&&decide (0<=4)&&Nat.ble 4 d.toNat then(4+(d.toNat - 4)<=c.length/\d.toNat - 4 < 1000000)/\(X8 h k f g q)/\(bif decide (0<=Int.ofNat (16+a.size+b.size))&&Nat.ble d.toNat (16+a.size+b.size)&&decide (0<=16)&&Nat.ble 16 d.toNat then(bif Nat.ble (16+i) c.length&&Nat.ble 16 (UD h k f g q).length&&BQ 1 (16+i)then(bif decide (0<=Int.ofNat (16+i))&&Nat.ble e.toNat (16+i)&&Nat.blt e.toNat Aa&&decide (0<=Int.ofNat (16+i))&&Nat.ble e.toNat e.toNat&&decide (0<=0)&&Nat.ble 0 e.toNat then(Q (.tuple ⟨[(.slice (some ⟨26,0,(some 0)⟩) (e.toNat - 0) 18446744073709551616),(int 0)]⟩) [some (.vec ([SK.int IntKind.u8]) (List.take 16 (List.drop 0 (UD h k f g q))++List.take i (List.drop 16 c)) false)])else False)else False)else False)else False)else False)else False)else(Q (.tuple ⟨[(.slice none 0 0),(int 2)]⟩) []))):=by kernel_rfl
theorem oS (k q:Int) (a b:As):CU yh (Ax xj) [] Cg [] 20 (fun v _=>v=int (bif DR k q a b then 0 else 2)) 600 (st Cg [R9 k q a b] (hp [])):=by
 rw[uc];(conv=>zeta)
 unfold DR Jf;have e1:(k != 1)= !(k==1):=rfl;have e2:(k != 2)= !(k==2):=rfl;have e3:(I1 a != 0)= !(I1 a==0):=rfl;have e4:(J6 b 512 != 0)= !(J6 b 512==0):=rfl;rw[e1,e2,e3,e4];have hx:(k==1)=true->(k==2)=false:=fun h=>by rw[eq_of_beq h];rfl
 generalize (ByteArray.toList b==ByteArray.toList { data:=#[] })=s;generalize decide (q < 1)=q1;generalize decide (q > 1099511627776)=q2;generalize (I1 a==0)=c1;generalize (J6 b 512==0)=c2;generalize hk1:(k==1)=k1 at hx;generalize hk2:(k==2)=k2 at hx;cases k1
 ·cases k2<;>cases q1<;>cases q2<;>cases c1<;>cases c2<;>cases s<;>exact rfl
 ·have:=hx rfl;subst this;cases q1<;>cases q2<;>cases c1<;>cases c2<;>cases s<;>exact rfl
theorem UN:CY Tryz.prog AI Cg (Ai AI 20 [] kf):=by
 refine BF vS.all (by kernel_rfl) (n:=BD Cg) (by kernel_rfl) (by kernel_rfl) fun argsc objs x hx hro=>?_
 clear hro;unfold kf at hx;split at hx
 ·rename_i k q a b;have hv:=oS k q a b;refine⟨?_,?_⟩
  ·exact BE (by kernel_rfl)
  ·cases hr:DR k q a b
   all_goals
    rw[hr]at hx hv;cases hx
    exact Ak.mono (AX.Fh (BK vS.pf (by kernel_rfl) hv)) fun v H e=>by have e:v=_:=e;subst e;exact Ch rfl
 ·cases hx
theorem toList_nil {s:As} (h:ByteArray.toList s=ByteArray.toList { data:=#[] }):s.size=0:=by
 have e:s.data.toList=[]:=by
  have:=congrArg List.length h;rw[Go.ByteArray.toList_eq]at h;rw[Go.ByteArray.toList_eq]at h;exact h
 have:s.data.size=0:=by rw[<-ax,e];rfl
 exact this
structure xL (k q:Int) (a b:As):Prop where
 hk:k=1∨(k=2/\b.size=0)
 q0:1<=q
 q1:q<=1099511627776
 a0:1<=a.size
 a1:a.size<=32
 b1:b.size<=512
theorem Sn {a:As} (h:I1 a=0):1<=a.size/\a.size<=32:=by
 unfold I1 at h;cases hr:nW a.size a 0
 ·rw[hr]at h;cases h
 ·rw[hr]at h;have h:Oz a=0:=h;unfold Oz at h;cases h1:(ByteArray.toList a==ByteArray.toList { data:=#[] })
  ·rw[h1]at h
   by_cases h2:Int.ofNat a.size > 32
   ·rw[KE h2]at h;cases h
   ·have h2:¬(a.size:Int) > 32:=h2;refine⟨?_,by omega⟩;rcases ABr a.size with h0 | h0
    ·exfalso;have:ByteArray.toList a=ByteArray.toList { data:=#[] }:=by
      rw[Go.ByteArray.toList_eq,Go.ByteArray.toList_eq];have:a.data.toList=[]:=Ss (by rw[ax];exact h0);rw[this]
     rw[this,AAS]at h1;cases h1
    ·exact h0
  ·rw[h1]at h;cases h
theorem dI {b:As} (h:J6 b 512=0):b.size<=512:=by
 unfold J6 at h;have e:(decide ((512:Int) < 0)||decide ((512:Int) > 512))=false:=rfl;rw[e]at h
 by_cases h2:Int.ofNat b.size > 512
 ·rw[KE h2]at h;cases h
 ·have h2:¬(b.size:Int) > 512:=h2;omega
theorem JH {k q:Int} {a b:As} (h:DR k q a b=true):xL k q a b:=by
 unfold DR at h;simp only[Dg,vZ,ABW,sd,kV]at h;obtain⟨⟨⟨⟨hk,h1⟩,h2⟩,h3⟩,h4⟩:=h;obtain⟨a0,a1⟩:=Sn h3;refine⟨?_,by omega,by omega,a0,a1,dI h4⟩;rcases hk with hk | ⟨hk,hs⟩
 ·exact .inl hk
 ·exact .inr ⟨hk,toList_nil (eq_of_beq hs)⟩
def Bu (a b:As):Nat:=16+a.size+b.size
def G6 (q:Int) (a:As) (d:Bool) (s o z:Int):Value:= .agg ⟨[.int .i64 q,.string a,.bool d,int s,int o,int z]⟩
def wR:Value:=G6 0 { data:=#[] } false 0 0 0
def L6 (k q:Int) (a b:As) (s o:Int):Bool:=DR k q a b&& !decide (s < 0)&& !decide (s≥32)&& !decide (o < 0)&& !decide (o > 8192)
def TX (args:AL) (objs:BN):GT:=match args,objs with
 | [.agg ⟨[.int .i64 k,.int .i64 q,.string a,.string b]⟩,.int .i64 s,.int .i64 o],[]=> .test (L6 k q a b s o) (.ret ⟨.tuple ⟨[G6 q a (k==2) s o (Bu a b),int 0]⟩,[],[]⟩) (.ret ⟨.tuple ⟨[wR,int 2]⟩,[],[]⟩)
 | _,_=> .fail
theorem mq {a b:As} (ha:a.size<=32) (hb:b.size<=512):IntKind.wrap .i64 (IntKind.wrap .i64 (16+Int.ofNat a.size)+Int.ofNat b.size)=(Bu a b:Nat):=by
 unfold Bu;show IntKind.wrap .i64 (IntKind.wrap .i64 (16+(a.size:Int))+(b.size:Int))=_;rw[wrap64 (x:=16+(a.size:Int)) (by omega) (by omega),wrap64 (by omega) (by omega)];omega
theorem wT:Ci xd:= .cons UN .nil
theorem fb (k q:Int) (a b:As) (s o:Int):CU yj (Ax xd) [] Cy [] 20 (fun v _=>v=(bif L6 k q a b s o then .tuple ⟨[G6 q a (k==2) s o (Bu a b),int 0]⟩else .tuple ⟨[wR,int 2]⟩)) 600 (st Cy [R9 k q a b,int s,int o] (hp [])):=by
 rw[mY];(conv=>zeta)
 unfold L6;cases hr:DR k q a b
 ·exact rfl
 ·obtain⟨_,_,_,_,h1,h2⟩:=JH hr;rw[mq h1 h2];cases decide (s < 0)<;>cases decide (s≥32)<;>cases decide (o < 0)<;>cases decide (o > 8192)<;>cases (k==2)<;>exact rfl
theorem Ve:CY Tryz.prog AI Cy (Ai AI 20 [] TX):=by
 refine BF wT.all (by kernel_rfl) (n:=BD Cy) (by kernel_rfl) (by kernel_rfl) fun argsc objs x hx hro=>?_
 clear hro;unfold TX at hx;split at hx
 ·rename_i k q a b s o;have hv:=fb k q a b s o;refine⟨BE (by kernel_rfl),?_⟩;cases hr:L6 k q a b s o
  all_goals
   rw[hr]at hx hv;cases hx
   exact Ak.mono (AX.Fh (BK wT.pf (by kernel_rfl) hv)) fun v H e=>by have e:v=_:=e;subst e;exact Ch rfl
 ·cases hx
def Wq (k q:Int) (a b:As):Ad:=(UD 0 k a.size b.size q).drop 4++(B1 a++B1 b)
def EA (k q:Int) (a b:As):Int:=Er 0 (Wq k q a b)
def E3 (k q:Int) (a b:As):Ad:=UD (EA k q a b) k a.size b.size q++(B1 a++B1 b)
theorem LJ (s k a b q:Int):(UD s k a b q).length=16:=by
 unfold UD;simp only[Pq,JX]
theorem E9 (k q:Int) (a b:As):(E3 k q a b).length=Bu a b:=by
 unfold E3 Bu;simp only[Pq,LJ,C0];omega
theorem eG (n:Int):0<=IntKind.u32.wrap n/\IntKind.u32.wrap n < 4294967296:=by simp[IntKind.wrap,IntKind.bits,IntKind.signed];omega
theorem aA (x:Int) (l:Ad):0<=Er x l/\Er x l < 4294967296:=by
 unfold Er Lj pX;exact eG _
theorem jn {k q:Int} {a b:As} (h:xL k q a b) {s:Int} (s0:0<=s) (s1:s < 4294967296):X8 s k (Int.ofNat a.size) (Int.ofNat b.size) q:=by
 obtain⟨hk,q0,q1,a0,a1,b1⟩:=h;refine⟨s0,s1,?_,?_,?_,?_,?_,q0,q1⟩
 ·rcases hk with hk | ⟨hk,hb⟩
  ·exact .inl hk
  ·exact .inr ⟨hk,by rw[hb];rfl⟩
 all_goals (first | (show(1:Int)<=(a.size:Int);omega) | (show(a.size:Int)<=32;omega) | (show(0:Int)<=(b.size:Int);omega) | (show(b.size:Int)<=512;omega))
def VV (args:AL) (objs:BN):GT:=match args,objs with
 | [.agg ⟨[.int .i64 k,.int .i64 q,.string a,.string b]⟩],[]=> .test (DR k q a b) (.ret ⟨.tuple ⟨[Ao 20 (Bu a b),int 0]⟩,[],[.vec kB (E3 k q a b) false]⟩) (.ret ⟨.tuple ⟨[.slice none 0 0,int 2]⟩,[],[]⟩)
 | _,_=> .fail
theorem uD:Ci vY:= .cons UN (.cons oY (.cons Zy .nil))
theorem ei {k q:Int} {a b:As} (hr:DR k q a b=true):CU yL (Ax vY) [] CS [] 20 (fun v os=>v= .tuple ⟨[Ao 26 (Bu a b),int 0]⟩/\os=[some (.vec kB (E3 k q a b) false)]) 900 (st CS [R9 k q a b] (hp [])):=by
 have hF:=JH hr;have a0:=hF.a0;have a1:=hF.a1;have b1:=hF.b1;rw[aQ];(conv=>zeta)
 have hd0:X8 0 k (Int.ofNat a.size) (Int.ofNat b.size) q:=jn hF (by decide) (by decide);generalize hH:UD 0 k (Int.ofNat a.size) (Int.ofNat b.size) q=H0;have hl:H0.length=16:=by rw[<-hH,LJ]
 have e1:List.take 16 (List.drop 0 H0)=H0:=by rw[bl,Nw (by omega)]
 have e2:List.take (16+a.size) (List.drop 0 (H0++B1 a))=H0++B1 a:=by rw[bl,Nw (by rw[Pq,C0];omega)]
 rw[e1,e2];have e3:Int.toNat (Int.ofNat (16+a.size+b.size))=16+a.size+b.size:=rfl;rw[e3];have hall:(H0++B1 a++B1 b).length=16+a.size+b.size:=by simp only[Pq,C0,hl]
 have htl:List.take (16+a.size+b.size - 4) (List.drop 4 (H0++B1 a++B1 b))=Wq k q a b:=by
  rw[Nw (by rw[Tx,hall];omega),aU,yl (by omega),<-hH];rfl
 rw[htl];have hsum:Er 0 (Wq k q a b)=EA k q a b:=rfl;rw[hsum];obtain⟨s0,s1⟩:0<=EA k q a b/\EA k q a b < 4294967296:=aA _ _;have hd1:X8 (EA k q a b) k (Int.ofNat a.size) (Int.ofNat b.size) q:=jn hF s0 s1;have hl2:(UD (EA k q a b) k (Int.ofNat a.size) (Int.ofNat b.size) q).length=16:=LJ ..;have hB:UD (EA k q a b) k (Int.ofNat a.size) (Int.ofNat b.size) q++(B1 a++B1 b)=E3 k q a b:=rfl;generalize UD (EA k q a b) k (Int.ofNat a.size) (Int.ofNat b.size) q=H1 at hl2 hB;have e4:List.take 16 (List.drop 0 H1)=H1:=by rw[bl,Nw (by omega)]
 have e5:List.take (16+a.size+b.size - 16) (List.drop 16 (H0++B1 a++B1 b))=B1 a++B1 b:=by
  rw[Nw (by rw[Tx,hall];omega),aU,yl (by omega),ur (by omega),ic]
 rw[e4,e5,hB];have e6:16+(16+a.size+b.size - 16)=Bu a b:=by unfold Bu;omega
 rw[e6];have e7:Int.toNat (Int.ofNat (Bu a b))=Bu a b:=rfl;rw[e7,ABV];have hz:Bu a b=16+a.size+b.size:=rfl;have nb:∀{x y:Nat},x<=y->Nat.ble x y=true:=fun h=>Ez h
 have cap:Nat.blt (Bu a b) Aa=true:=by rw[Dh];exact Ez (by omega)
 refine AB hr ⟨hd0,AB ?_ ⟨rfl,rfl,AB ?_ (AB ?_ ⟨⟨by rw[hall];omega,by omega⟩,hd1,AB ?_ (AB ?_ (AB ?_ ⟨rfl,rfl⟩))⟩)⟩⟩
 ·rw[hl,L8 (by omega)];rfl
 ·rw[Pq,hl,C0,RP,L8 (by omega),nb (GO _)];rfl
 ·rw[nb (GO _),nb (show 4<=16+a.size+b.size by omega),show decide (0<=Int.ofNat (16+a.size+b.size))=true from KE (uf _)];rfl
 ·rw[nb (GO _),nb (show 16<=16+a.size+b.size by omega),show decide (0<=Int.ofNat (16+a.size+b.size))=true from KE (uf _)];rfl
 ·rw[hall,hl2,L8 (by omega),nb (show Bu a b<=16+a.size+b.size by omega)];rfl
 ·rw[cap,nb (GO _),nb (ay _),show decide (0<=Int.ofNat (Bu a b))=true from KE (uf _)];rfl
theorem fe:CY Tryz.prog AI CS (Ai AI 20 [] VV):=by
 refine BF uD.all (by kernel_rfl) (n:=BD CS) (by kernel_rfl) (by kernel_rfl) fun argsc objs x hx hro=>?_
 clear hro;unfold VV at hx;split at hx
 ·rename_i k q a b;refine⟨BE (by kernel_rfl),?_⟩;cases hr:DR k q a b
  ·rw[hr]at hx;cases hx
   have hv:CU yL (Ax vY) [] CS [] 20 (fun v _=>v= .tuple ⟨[.slice none 0 0,int 2]⟩) 900 (st CS [R9 k q a b] (hp [])):=by
    rw[aQ];exact AZ hr rfl
   exact Ak.mono (AX.Fh (BK uD.pf (by kernel_rfl) hv)) fun v H e=>by have e:v=_:=e;subst e;exact Ch rfl
  ·rw[hr]at hx;cases hx
   refine Ak.mono (AX.Fh (BK uD.pf (by kernel_rfl) (ei hr))) fun v H ⟨e,hos⟩=>?_
   subst e;have hos:[H.get 26]=_:=hos;simp only[Nh,iy]at hos;exact Rm (by decide) hos
 ·cases hx
end Go.AD
namespace Go.AD
open Go.Proofs
end Go.AD
namespace Go.AD
open Go.Proofs
theorem Lu {n:Nat} (h:n < 100000):BQ 56 n=true:=by
 unfold BQ;rw[Ez (by omega),Ez (by omega)];rfl
theorem tJ (a b:Int) (Q:Bm):CU X0 Cz [] Es [] 20 Q 100 (st Es [int a,int b] (hp []))=(
 (bif a != a then(bif b != b then(Q (int 0) [])else(Q (int (-1)) []))else(bif b != b then(Q (int 1) [])else(bif decide (a < b)then(Q (int (-1)) [])else(bif decide (a > b)then(Q (int 1) [])else(Q (int 0) [])))))):=by kernel_rfl
theorem lg (a b:Int) (Q:Bm):CU X0 Cz [] Dy [] 20 Q 100 (st Dy [int a,int b] (hp []))=(
 (bif a != a then(bif b != b then(Q (int 0) [])else(Q (int (-1)) []))else(bif b != b then(Q (int 1) [])else(bif decide (a < b)then(Q (int (-1)) [])else(bif decide (a > b)then(Q (int 1) [])else(Q (int 0) [])))))):=by kernel_rfl
def LP (a b:Int):Int:=bif decide (a < b)then -1 else bif decide (a > b)then 1 else 0
def eE (args:AL) (objs:BN):GT:=match args,objs with
 | [.int .i64 a,.int .i64 b],[]=> .ret ⟨int (LP a b),[],[]⟩
 | _,_=> .fail
def uZ:List GA:=[GQ Es [] eE,GQ Dy [] eE]
abbrev vD:Ctx:=Bp Tryz.prog AI (Cv uZ)
def mN (l:List (EK.C Ah)) (n:Nat) (o i j:Int):BT:=
 ⟨⟨AK,EZ [(0,Ao 20 n),(1,int o),(2,.func (.func B5) ⟨[]⟩ ⟨[]⟩),(8,int n),(9,int i),(10,int j)],BD AK,[.code (A9 Tryz.prog AK [1,1,1,0,0,0]),.inLoop (A9 Tryz.prog AK [1,1,1,0,0,0]),.inBlock 0,.code (A9 Tryz.prog AK [1,1,1,1])],[],false,.normal,none⟩,[],hp [.vec Ah l true]⟩
def uu:Stop:=⟨AK,0,3,21,[20],[0,1,2,8,9,10]⟩
theorem tN (l:List (EK.C Ah)) (n:Nat) (o:Int) (Q:Bm) (R:Bz):Iy vD (Ax uZ) [] AK [] uu [] Q R 200 (st AK [Ao 20 n,int o,.func (.func B5) ⟨[]⟩ ⟨[]⟩] (hp [.vec Ah l true]))=(
 (R (mN l n o 0 (Int.ofNat n)))):=by kernel_rfl
theorem vW (l:List (EK.C Ah)) (n:Nat) (o i j:Int) (Q:Bm) (R:Bz):Iy vD (Ax uZ) [] AK [] uu [] Q R 200 (mN l n o i j)=(
 let c:Prop:=Q (.tuple ⟨[(int i),(.bool false)]⟩) [];let a:=Int.fdiv (IntKind.wrap IntKind.u64 (IntKind.wrap .i64 (i+j))) (2 ^ min 1 (IntKind.bits IntKind.u64));let b:=IntKind.wrap .i64 a;(bif decide (i < j)then(bif decide (0<=IntKind.wrap .i64 a)&&Nat.blt b.toNat n then(bif Nat.blt (0+b.toNat) l.length then(bif decide (LP (List.getD l (0+b.toNat) (EK.BL Ah)).2.2.2.2.1 o < 0)then(R (mN l n o (IntKind.wrap .i64 (IntKind.wrap .i64 a+1)) j))else(R (mN l n o i b)))else False)else False)else(bif decide (i < (n:Int))then(bif decide (0<=i)&&Nat.blt i.toNat n then(bif Nat.blt (0+i.toNat) l.length then(bif LP (List.getD l (0+i.toNat) (EK.BL Ah)).2.2.2.2.1 o==0 then(Q (.tuple ⟨[(int i),(.bool true)]⟩) [])else c)else False)else False)else c))):=by kernel_rfl
def ZJ (q1 s1 q2 s2:Int):Int:=bif LP q2 q1 != 0 then LP q2 q1 else LP s1 s2
def sq (args:AL) (objs:BN):GT:=match args,objs with
 | [.agg ⟨[.int .i64 q1,.string _,.bool _,.int .i64 s1,.int .i64 _,.int .i64 _]⟩,.agg ⟨[.int .i64 q2,.string _,.bool _,.int .i64 s2,.int .i64 _,.int .i64 _]⟩],[]=> .ret ⟨int (ZJ q1 s1 q2 s2),[],[]⟩
 | _,_=> .fail
theorem rW (q1:Int) (a1:As) (d1:Bool) (s1 o1 z1 q2:Int) (a2:As) (d2:Bool) (s2 o2 z2:Int) (Q:Bm):CU vD (Ax uZ) [] B8 [] 20 Q 200 (st B8 [G6 q1 a1 d1 s1 o1 z1,G6 q2 a2 d2 s2 o2 z2] (hp []))=(
 let b:Value:= .pointer (some ⟨20,3,none⟩);let a:Value:= .pointer (some ⟨21,3,none⟩);(((int s2):Value)=(int s2))/\((a:Value)=a)/\(((int s1):Value)=(int s1))/\((b:Value)=b)/\(bif LP q2 q1 != 0 then(Q (int (LP q2 q1)) [])else(bif LP s1 s2 != 0 then(Q (int (LP s1 s2)) [])else(Q (int 0) [])))):=by kernel_rfl
def wo:List GA:=[GQ B8 [] sq]
abbrev xZ:Ctx:=Bp Tryz.prog AI (Cv wo)
def oL (l:List (EK.C Ah)) (n:Nat) (q:Int) (a:As) (d:Bool) (s o z:Int) (i j:Int):BT:=
 ⟨⟨AT,EZ [(0,Ao 20 n),(2,.func (.func B8) ⟨[]⟩ ⟨[]⟩),(4,At 21),(8,int n),(9,int i),(10,int j)],BD AT,[.code (A9 Tryz.prog AT [1,1,1,0,0,0]),.inLoop (A9 Tryz.prog AT [1,1,1,0,0,0]),.inBlock 0,.code (A9 Tryz.prog AT [1,1,1,1])],[],false,.normal,none⟩,[],(hp [.vec Ah l true]).alloc (.cells [int q,.string a,.bool d,int s,int o,int z] 0 false)⟩
def vE:Stop:=⟨AT,0,3,21,[20],[0,2,4,8,9,10]⟩
theorem rJ (l:List (EK.C Ah)) (n:Nat) (q:Int) (a:As) (d:Bool) (s o z:Int) (Q:Bm) (R:Bz):Iy xZ (Ax wo) [] AT [] vE [] Q R 200 (st AT [Ao 20 n,G6 q a d s o z,.func (.func B8) ⟨[]⟩ ⟨[]⟩] (hp [.vec Ah l true]))=(
 (R (oL l n q a d s o z 0 (Int.ofNat n)))):=by kernel_rfl
theorem vw (l:List (EK.C Ah)) (n:Nat) (q:Int) (a:As) (d:Bool) (s o z:Int) (i j:Int) (Q:Bm) (R:Bz):Iy xZ (Ax wo) [] AT [] vE [] Q R 300 (oL l n q a d s o z i j)=(
 let m:=((int i):Value)=(int i);let k:Prop:=Q (.tuple ⟨[(int i),(.bool false)]⟩) [];let h:=((.bool false):Value)=(.bool false);let c:=List.getD l (0+i.toNat) (EK.BL Ah);let f:=((.bool (ZJ c.1 c.2.2.2.1 q s==0)):Value);let b:=Int.fdiv (IntKind.wrap IntKind.u64 (IntKind.wrap .i64 (i+j))) (2 ^ min 1 (IntKind.bits IntKind.u64));let e:=IntKind.wrap .i64 b;let g:=List.getD l (0+e.toNat) (EK.BL Ah);(bif decide (i < j)then(bif decide (0<=IntKind.wrap .i64 b)&&Nat.blt e.toNat n then(bif Nat.blt (0+e.toNat) l.length then(bif decide (ZJ g.1 g.2.2.2.1 q s < 0)then(R (oL l n q a d s o z (IntKind.wrap .i64 (IntKind.wrap .i64 b+1)) j))else(R (oL l n q a d s o z i e)))else False)else False)else(bif decide (i < (n:Int))then(bif decide (0<=i)&&Nat.blt i.toNat n then(bif Nat.blt (0+i.toNat) l.length then m/\(bif ZJ c.1 c.2.2.2.1 q s==0 then(((.bool true):Value)=(.bool true))/\(f=(.bool true))/\(Q (.tuple ⟨[(int i),(.bool true)]⟩) [])else h/\(f=(.bool false))/\k)else False)else False)else m/\h/\k))):=by kernel_rfl
def Xc (p:Nat->Bool):Nat->Nat->Nat->Nat
 | 0,lo,_=>lo
 | f+1,lo,hi=>if lo < hi then(bif p ((lo+hi) / 2)then Xc p f ((lo+hi) / 2+1) hi else Xc p f lo ((lo+hi) / 2))else lo
theorem Jz (p:Nat->Bool):∀(f lo hi:Nat),lo<=hi->lo<=Xc p f lo hi/\Xc p f lo hi<=hi
 | 0,lo,hi,h=>⟨GO _,h⟩
 | f+1,lo,hi,h=>by
  unfold Xc
  by_cases hl:lo < hi
  ·rw[MB hl];cases p ((lo+hi) / 2)
   ·have:=Jz p f lo ((lo+hi) / 2) (by omega);exact⟨this.1,by have:=this.2;simp only[EB];omega⟩
   ·have:=Jz p f ((lo+hi) / 2+1) hi (by omega);exact⟨by have:=this.1;simp only[C8];omega,this.2⟩
  ·rw[JT hl];exact⟨GO _,h⟩
theorem ZP (p:Nat->Bool) (r:Nat):∀(f lo hi:Nat),hi - lo<=f->lo<=r->r<=hi->(∀m,lo<=m->m < hi->(p m=true ↔ m < r))->Xc p f lo hi=r
 | 0,lo,hi,hf,h1,h2,_=>by unfold Xc;omega
 | f+1,lo,hi,hf,h1,h2,hp=>by
  unfold Xc
  by_cases hl:lo < hi
  ·rw[MB hl];have hm:=hp ((lo+hi) / 2) (by omega) (by omega);cases hc:p ((lo+hi) / 2)
   ·have:¬(lo+hi) / 2 < r:=fun h=>by rw[hm.2 h]at hc;cases hc
    exact ZP p r f lo ((lo+hi) / 2) (by omega) h1 (by omega) fun m a b=>hp m a (by omega)
   ·have:=hm.1 hc;exact ZP p r f ((lo+hi) / 2+1) hi (by omega) (by omega) h2 fun m a b=>hp m (by omega) b
  ·rw[JT hl];omega
def pS (i j:Int):Int:=IntKind.wrap .i64 (Int.fdiv (IntKind.wrap .u64 (IntKind.wrap .i64 (i+j))) (2 ^ min 1 (IntKind.bits .u64)))
def gr (n len:Nat) (i j:Int) (g:Nat->Int) (R:Int->Int->Prop) (E:Prop):Prop:=
 bif decide (i < j)then(bif decide (0<=pS i j)&&Nat.blt (pS i j).toNat n then(bif Nat.blt (0+(pS i j).toNat) len then(bif decide (g (0+(pS i j).toNat) < 0)then R (IntKind.wrap .i64 (pS i j+1)) j else R i (pS i j))else False)else False)else E
def qt (n len:Nat) (i:Int) (g:Nat->Int) (Q:Bool->Prop):Prop:=bif decide (i < (n:Int))then(bif decide (0<=i)&&Nat.blt i.toNat n then(bif Nat.blt (0+i.toNat) len then(bif g (0+i.toNat)==0 then Q true else Q false)else False)else False)else Q false
def ub (n len:Nat) (i:Int) (g:Nat->Int) (Q:Bool->Prop):Prop:=bif decide (i < (n:Int))then(bif decide (0<=i)&&Nat.blt i.toNat n then(bif Nat.blt (0+i.toNat) len then(int i=int i/\(bif g (0+i.toNat)==0 then(Value.bool true= .bool true/\Value.bool (g (0+i.toNat)==0)= .bool true/\Q true)else(Value.bool false= .bool false/\Value.bool (g (0+i.toNat)==0)= .bool false/\Q false)))else False)else False)else(int i=int i/\Value.bool false= .bool false/\Q false)
theorem rp {i j n:Nat} (h:i < j) (hj:j<=n) (hn:n < 1000000):pS (i:Int) (j:Int)=(((i+j) / 2:Nat):Int):=by
 unfold pS;rw[wrap64 (x:=(i:Int)+(j:Int)) (by omega) (by omega),M9 (by omega) (by omega)];have e:Int.fdiv ((i:Int)+(j:Int)) (2 ^ min 1 (IntKind.bits .u64))=(((i+j) / 2:Nat):Int):=by
  show Int.fdiv ((i:Int)+(j:Int)) 2=_;rw[ABI _ (by decide)];omega
 rw[e,wrap64 (by omega) (by omega)]
def Z7 (n:Nat) (g:Nat->Int) (r:Nat):Bool:=decide (r < n)&&(g r==0)
theorem an {n len i j:Nat} {g:Nat->Int} {R:Int->Int->Prop} {E:Prop} (hl:n<=len) (hn:n < 1000000) (h:i < j) (hj:j<=n) (h1:decide (g ((i+j) / 2) < 0)=true->R (((i+j) / 2+1:Nat):Int) j) (h2:decide (g ((i+j) / 2) < 0)=false->R (i:Int) (((i+j) / 2:Nat):Int)):gr n len (i:Int) (j:Int) g R E:=by
 unfold gr;rw[rp h hj hn];have e:IntKind.wrap .i64 ((((i+j) / 2:Nat):Int)+1)=(((i+j) / 2+1:Nat):Int):=by rw[wrap64 (by omega) (by omega)];omega
 rw[e,MG,RP];refine AB (KE (by omega)) (AB ?_ (AB (Ez (by omega)) (BX h1 h2)));rw[KE (show(0:Int)<=(((i+j) / 2:Nat):Int) by omega),show Nat.blt ((i+j) / 2) n=true from Ez (by omega)];rfl
theorem Wo {n len i j:Nat} {g:Nat->Int} {R:Int->Int->Prop} {E:Prop} (h:¬i < j) (hE:E):gr n len (i:Int) (j:Int) g R E:=AZ (MC (by omega)) hE
theorem mh {n len i:Nat} {g:Nat->Int} {Q:Bool->Prop} (hl:n<=len) (hQ:Q (Z7 n g i)):qt n len (i:Int) g Q:=by
 unfold Z7 at hQ;unfold qt;rw[MG,RP]
 by_cases h:i < n
 ·rw[KE h,AAM]at hQ;refine AB (KE (by omega)) (AB ?_ (AB (Ez (by omega)) (BX (fun c=>?_) fun c=>?_)))
  ·rw[KE (show(0:Int)<=(i:Int) by omega),show Nat.blt i n=true from Ez h];rfl
  ·rw[c]at hQ;exact hQ
  ·rw[c]at hQ;exact hQ
 ·rw[MC h]at hQ;exact AZ (MC (by omega)) hQ
theorem mZ {n len i:Nat} {g:Nat->Int} {Q:Bool->Prop} (hl:n<=len) (hQ:Q (Z7 n g i)):ub n len (i:Int) g Q:=by
 unfold Z7 at hQ;unfold ub;rw[MG,RP]
 by_cases h:i < n
 ·rw[KE h,AAM]at hQ;refine AB (KE (by omega)) (AB ?_ (AB (Ez (by omega)) ⟨rfl,BX (fun c=>⟨rfl,by rw[c],?_⟩) fun c=>⟨rfl,by rw[c],?_⟩⟩))
  ·rw[KE (show(0:Int)<=(i:Int) by omega),show Nat.blt i n=true from Ez h];rfl
  ·rw[c]at hQ;exact hQ
  ·rw[c]at hQ;exact hQ
 ·rw[MC h]at hQ;exact AZ (MC (by omega)) ⟨rfl,rfl,hQ⟩
theorem kS {X:Ctx} {f:FuncId} {n _len:Nat} {g:Nat->Int} {T:Int->Int->BT} {V:Nat->Value} (_hn:n < 1000000)
 (go:∀(i j:Nat),i < j->j<=n->∀c2:BT,(decide (g ((i+j) / 2) < 0)=true->c2=T (((i+j) / 2+1:Nat):Int) j)->(decide (g ((i+j) / 2) < 0)=false->c2=T (i:Int) (((i+j) / 2:Nat):Int))->∀Q:Ih,AX X 21 f Q c2->AX X 21 f Q (T (i:Int) (j:Int)))
 (fin:∀i:Nat,i<=n->AX X 21 f (fun v _=>v=V i) (T (i:Int) (i:Int))):
 ∀(q i j:Nat),j - i<=q->i<=j->j<=n->AX X 21 f (fun v _=>v=V (Xc (fun m=>decide (g m < 0)) q i j)) (T (i:Int) (j:Int)):=by
 intro q;induction q with
 | zero=>
  intro i j hq hi hj;obtain rfl:i=j:=by omega
  exact fin i hj
 | succ q ih=>
  intro i j hq hi hj;unfold Xc
  by_cases h:i < j
  ·rw[MB h];cases hc:decide (g ((i+j) / 2) < 0)
   ·exact go i j h hj _ (fun e=>by rw[hc]at e;cases e) (fun _=>rfl) _ (ih i ((i+j) / 2) (by omega) (by omega) (by omega))
   ·exact go i j h hj _ (fun _=>rfl) (fun e=>by rw[hc]at e;cases e) _ (ih ((i+j) / 2+1) j (by omega) (by omega) hj)
  ·rw[JT h];obtain rfl:i=j:=by omega
   exact fin i hj
theorem Tw {a:Int}:(a != a)=false:=by simp
theorem SX {f:FuncId} (he:entry Tryz.prog f=some (BD f,A9 Tryz.prog f [])) (h2:Nat.ble 2 (BD f)=true) (hv:∀a b,CU X0 Cz [] f [] 20 (fun v _=>v=int (LP a b)) 100 (st f [int a,int b] (hp []))):CY Tryz.prog AI f (Ai AI 20 [] eE):=by
 refine BF (CO.nil _ _) (by kernel_rfl) (n:=BD f) he (by kernel_rfl) fun argsc objs x hx hro=>?_
 clear hro;unfold eE at hx;split at hx
 ·rename_i a b;cases hx
  exact⟨BE h2,Ak.mono (AX.Fh (BK (CB _) (by kernel_rfl) (hv a b))) fun v H e=>by have e:v=_:=e;subst e;exact Ch rfl⟩
 ·cases hx
theorem nt:CY Tryz.prog AI Es (Ai AI 20 [] eE):=SX (by kernel_rfl) (by kernel_rfl) fun a b=>by
 rw[tJ,Tw,Tw];unfold LP;cases decide (a < b)<;>cases decide (a > b)<;>exact rfl
theorem j6:CY Tryz.prog AI Dy (Ai AI 20 [] eE):=SX (by kernel_rfl) (by kernel_rfl) fun a b=>by
 rw[lg,Tw,Tw];unfold LP;cases decide (a < b)<;>cases decide (a > b)<;>exact rfl
theorem dB:Ci uZ:= .cons nt (.cons j6 .nil)
theorem nH:CY Tryz.prog AI B8 (Ai AI 20 [] sq):=by
 refine BF dB.all (by kernel_rfl) (n:=BD B8) (by kernel_rfl) (by kernel_rfl) fun argsc objs x hx hro=>?_
 clear hro;unfold sq at hx;split at hx
 ·rename_i q1 a1 d1 s1 o1 z1 q2 a2 d2 s2 o2 z2;cases hx
  have hv:CU vD (Ax uZ) [] B8 [] 20 (fun v _=>v=int (ZJ q1 s1 q2 s2)) 200 (st B8 [G6 q1 a1 d1 s1 o1 z1,G6 q2 a2 d2 s2 o2 z2] (hp [])):=by
   rw[rW];(conv=>zeta)
   unfold ZJ;refine⟨rfl,rfl,rfl,rfl,BX (fun c=>by rw[c];rfl) fun c=>?_⟩;rw[c];refine BX (fun _=>rfl) fun c2=>?_
   have:LP s1 s2=0:=by
    rw[bne_eq_false_iff_eq]at c2;exact c2
   rw[this];rfl
  exact⟨BE (by kernel_rfl),Ak.mono (AX.Fh (BK dB.pf (by kernel_rfl) hv)) fun v H e=>by have e:v=_:=e;subst e;exact Ch rfl⟩
 ·cases hx
theorem l9:Ci wo:= .cons nH .nil
def DI (l:Aw) (m:Nat):NQ:=l.getD m (EK.BL Ah)
def G8 (l:Aw) (o:Int) (m:Nat):Int:=LP (DI l m).2.2.2.2.1 o
def E5 (l:Aw) (q s:Int) (m:Nat):Int:=ZJ (DI l m).1 (DI l m).2.2.2.1 q s
theorem iF (l:List (EK.C Ah)) (n:Nat) (o i j:Int) (Q:Bm) (R:Bz):Iy vD (Ax uZ) [] AK [] uu [] Q R 200 (mN l n o i j)=gr n l.length i j (G8 l o) (fun i j=>R (mN l n o i j)) (qt n l.length i (G8 l o) fun b=>Q (.tuple ⟨[int i,.bool b]⟩) []):=by rw[vW];rfl
theorem iq (l:List (EK.C Ah)) (n:Nat) (q:Int) (a:As) (d:Bool) (s o z:Int) (i j:Int) (Q:Bm) (R:Bz):Iy xZ (Ax wo) [] AT [] vE [] Q R 300 (oL l n q a d s o z i j)=gr n l.length i j (E5 l q s) (fun i j=>R (oL l n q a d s o z i j)) (ub n l.length i (E5 l q s) fun b=>Q (.tuple ⟨[int i,.bool b]⟩) []):=by rw[vw];rfl
def mR (n:Nat) (g:Nat->Int) (i:Nat):Value:= .tuple ⟨[int (i:Nat),.bool (Z7 n g i)]⟩
def PH (n:Nat) (g:Nat->Int):Nat:=Xc (fun m=>decide (g m < 0)) n 0 n
theorem oE {l:Aw} {o:Int} (hn:l.length < 1000000):AX vD 21 AK (fun v _=>v=mR l.length (G8 l o) (PH l.length (G8 l o))) (mN l l.length o 0 l.length):=by
 refine kS (T:=fun i j=>mN l l.length o i j) (g:=G8 l o) (n:=l.length) (_len:=l.length) (V:=mR l.length (G8 l o)) hn (fun i j hij hj c2 e1 e2 Q hc=>?_) (fun i hi=>?_) l.length 0 l.length (by omega) (ay _) (GO _)
 ·refine Bq dB.pf [] [] uu [] (by kernel_rfl) (by decide) (fun _ _=>False) (fun c=>c=c2) (fun v H h=>h.elim) (fun c h=>by rw[h];exact hc) (n:=200) ?_;rw[iF];exact an (GO _) hn hij hj (fun c=>(e1 c).symm) fun c=>(e2 c).symm
 ·refine Bq dB.pf [] [] uu [] (by kernel_rfl) (by decide) (fun v _=>v=mR l.length (G8 l o) i) (fun _=>False) (fun v H h=>h) (fun c h=>h.elim) (n:=200) ?_;rw[iF];exact Wo (uB _) (mh (GO _) rfl)
theorem oO {l:Aw} {q:Int} {a:As} {d:Bool} {s o z:Int} (hn:l.length < 1000000):AX xZ 21 AT (fun v _=>v=mR l.length (E5 l q s) (PH l.length (E5 l q s))) (oL l l.length q a d s o z 0 l.length):=by
 refine kS (T:=fun i j=>oL l l.length q a d s o z i j) (g:=E5 l q s) (n:=l.length) (_len:=l.length) (V:=mR l.length (E5 l q s)) hn (fun i j hij hj c2 e1 e2 Q hc=>?_) (fun i hi=>?_) l.length 0 l.length (by omega) (ay _) (GO _)
 ·refine Bq l9.pf [] [] vE [] (by kernel_rfl) (by decide) (fun _ _=>False) (fun c=>c=c2) (fun v H h=>h.elim) (fun c h=>by rw[h];exact hc) (n:=300) ?_;rw[iq];exact an (GO _) hn hij hj (fun c=>(e1 c).symm) fun c=>(e2 c).symm
 ·refine Bq l9.pf [] [] vE [] (by kernel_rfl) (by decide) (fun v _=>v=mR l.length (E5 l q s) i) (fun _=>False) (fun v H h=>h) (fun c h=>h.elim) (n:=300) ?_;rw[iq];exact Wo (uB _) (mZ (GO _) rfl)
def xg (args:AL) (objs:BN):GT:=match args,objs with
 | [.slice (some ⟨20,0,some 0⟩) n 18446744073709551616,.int .i64 o,.func (.func f) ⟨[]⟩ ⟨[]⟩],[.vec [.int .i64,.str,.bool,.int .i64,.int .i64,.int .i64] l _]=> .ask (n=l.length/\f=B5/\l.length < 1000000) (.ret ⟨mR l.length (G8 l o) (PH l.length (G8 l o)),[],[]⟩)
 | _,_=> .fail
theorem iZ:CY Tryz.prog AI AK (Ai AI 20 [] xg):=by
 refine BF dB.all (by kernel_rfl) (n:=BD AK) (by kernel_rfl) (by kernel_rfl) fun argsc objs x hx hro=>?_
 clear hro;unfold xg at hx;split at hx
 ·rename_i n o f l ro;simp only[GT.run]at hx;split at hx
  ·rename_i hp0;cases hx
   obtain⟨rfl,rfl,hb⟩:=hp0;refine⟨BE (by kernel_rfl),Ak.mono (Q:=fun v _=>v=mR l.length (G8 l o) (PH l.length (G8 l o))) (AX.Fh ?_) fun v H e=>by subst e;exact Ch rfl⟩;refine Bq dB.pf [] [] uu [] (by kernel_rfl) (show 21<=21 from GO _) (fun _ _=>False) (fun c=>c=mN l l.length o 0 l.length) (fun v H h=>h.elim) (fun c h=>by rw[h];exact oE hb) (n:=200) (c:=st AK [Ao 20 l.length,int o,.func (.func B5) ⟨[]⟩ ⟨[]⟩] (hp [.vec Ah l true])) ?_;rw[tN];exact rfl
  ·cases hx
 ·cases hx
end Go.AD
