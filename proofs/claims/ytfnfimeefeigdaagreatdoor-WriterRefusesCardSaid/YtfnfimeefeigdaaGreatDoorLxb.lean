/-
  Part of the proof: fixed runs of a program. No conditions.
-/
import Derived.Test.YtfnfimeefeigdaaGreatDoorIdTell3
import Derived.Test.YtfnfimeefeigdaaGreatDoorAbr
import Derived.Test.YtfnfimeefeigdaaGreatDoorTblK
import Derived.Lib.Repeat
import Derived.Shelf.Strings.Repeat
import Derived.Shelf.Strconv.Itoa3
import Derived.Shelf.Strings.OnBuilder
import Derived.Shelf.Strings.Split
import Derived.Shelf.Strconv.AtoiAll
import Derived.Shelf.Small.Strs
import Derived.Lib.IndexBytes
import Derived.Test.YtfnfimeefeigdaaGreatDoorIdIop
noncomputable section
set_option maxRecDepth 1000000
namespace Go.AB
theorem AH.u6{base:Env}{W0 W:World}{Z:AW}{H:AA}(h:AH base W0 Z H W){b:Nat}{T:BQ}{k:EK}{l:List (EK.C k)}{e:Nat}{ro:Bool}(hb:H.get b=some (.cells (Ac k l) e ro))(hm:Z b=some T)(he1:e≠1):
 AH base W0 (Z.ext H.next ⟨T.c,T.d,T.r,k.length⟩) ((H.del b).alloc (.vec k l ro)) W/\Ah Z H (Z.ext H.next ⟨T.c,T.d,T.r,k.length⟩) ((H.del b).alloc (.vec k l ro)):=by
 have hn:=(h.fresh H.next (AAT _)).2;have hle:=AW.CV ⟨T.c,T.d,T.r,k.length⟩ hn;have hlt:=h.bound b T hm;have hbl:=h.lt hb;have nv:¬(AJ.cells (Ac k l) e ro).void T:=id;have both:∀{b' p X},((H.del b).alloc (.vec k l ro)).get b'=some p->(Z.ext H.next ⟨T.c,T.d,T.r,k.length⟩) b'=some X->(b'=H.next/\p= .vec k l ro/\X=⟨T.c,T.d,T.r,k.length⟩)\/(b'≠H.next/\b'≠b/\H.get b'=some p/\Z b'=some X):=by
  intro b' p X h1 h2;rw[AA.AN]at h1
  by_cases e:b'=H.next
  .rw[AAZ (show b'=(H.del b).next from e)]at h1;cases h1
   subst e;rw[AW.AY]at h2;cases h2;exact .inl ⟨rfl,rfl,rfl⟩
  .rw[AAW (show ¬b'=(H.del b).next from e)]at h1;rw[AW.BB _ _ e]at h2;obtain⟨g1,g2⟩:=AA.BS h1;exact .inr ⟨e,g1,g2,h2⟩
 refine⟨⟨?_,?_,?_,?_,?_,h.size,h.below,h.out,h.os,?_,AW.le_trans h.le hle,h.grow⟩,⟨hle,ADX _,?_⟩⟩
 .intro b' p hb' X hm';rcases both hb' hm' with⟨rfl,rfl,rfl⟩ | ⟨_,_,g1,g2⟩
  .obtain⟨o',h1,h2⟩:=h.obj b _ hb T hm;refine⟨o',h1,.vec _ k l ro o' ?_⟩;cases h2 with
   | cells _ _ _ c t lo hi he hc hr hf=>exact .cells ⟨T.c,T.d,T.r,k.length⟩ _ _ ro c t lo hi rfl (hc.mono hle) hr fun h0 i hi=>hf h0 i (hi.imp id fun⟨q,_⟩=>⟨q,he1⟩)
  .obtain⟨o2,h2,h3⟩:=h.obj b' p g1 X g2;exact⟨o2,h2,h3.mono hle⟩
 .intro b' p hb' hr X hm' hv;rcases both hb' hm' with⟨rfl,rfl,rfl⟩ | ⟨_,_,g1,g2⟩
  .exact h.own b _ hb hr T hm nv
  .exact h.own b' p g1 hr X g2 hv
 .intro b1 b2 p1 p2 h1 h2 T1 T2 m1 m2 v1 v2 hcc hrr;rcases both h1 m1 with⟨rfl,rfl,rfl⟩ | ⟨_,n1,g1,g2⟩<;>rcases both h2 m2 with⟨rfl,rfl,rfl⟩ | ⟨_,n2,g3,g4⟩
  .rfl
  .exact absurd (h.inj b b2 _ p2 hb g3 T T2 hm g4 nv v2 hcc hrr) (ABB n2)
  .exact absurd (h.inj b1 b p1 _ g1 hb T1 T g2 hm v1 nv hcc hrr) n1
  .exact h.inj b1 b2 p1 p2 g1 g3 T1 T2 g2 g4 v1 v2 hcc hrr
 .intro b' hb';have hb':H.next+1<=b':=hb';refine⟨?_,?_⟩
  .rw[AA.AN,AAW (show ¬b'=(H.del b).next by show ¬b'=H.next;omega),AA.BK,AAW (by omega)];exact(h.fresh b' (by omega)).1
  .rw[AW.BB _ _ (by omega)];exact(h.fresh b' (by omega)).2
 .intro b' X hm'
  by_cases e:b'=H.next
  .subst e;rw[AW.AY]at hm';cases hm';exact hlt
  .rw[AW.BB _ _ e]at hm';exact h.bound b' X hm'
 .obtain⟨φ,q⟩:=h.abs;refine⟨φ,?_,?_⟩
  .intro b' a r T' hb' hm';rcases both hb' hm' with⟨_,e,_⟩ | ⟨_,_,g1,g2⟩
   .cases e
   .obtain⟨r1,r2⟩:=q.rep b' a r T' g1 g2;exact⟨r1.mono hle,r2⟩
  .intro b' a r T' hb' hm' b2 o2 T2 hb2 hm2 hne2;rcases both hb' hm' with⟨_,e,_⟩ | ⟨_,n1,g1,g2⟩
   .cases e
   .rcases both hb2 hm2 with⟨rfl,rfl,rfl⟩ | ⟨_,_,g3,g4⟩
    .exact⟨fun _=>(q.C3 b' a r T' g1 g2 b _ T hb hm (ABB n1)).1 nv,fun e=>by cases e⟩
    .exact q.C3 b' a r T' g1 g2 b2 o2 T2 g3 g4 hne2
 .intro b' hb' hm';refine⟨?_,?_⟩
  .rw[AW.BB _ _ (AB3 hb')];exact hm'
  .rw[AA.AN,AAW (show ¬b'=(H.del b).next from AB3 hb'),AA.BK,AAW (by rintro rfl;rw[hm]at hm';cases hm')]
theorem BA.rowP{X:Ctx}{N:Nat}{Φ:Cy}{fn:FuncId}{t:Tr Value}{n:Nat}{todo:List Cs}{ds:List Deferred}{r:Bool}{kd:CallKind}{rd:Option Nat}{cs:List Ae}{H:AA}(b j:Nat)(k:EK)(l:List (EK.C k)){e:Nat}{ro:Bool}(hd:Df todo=true)(hds:(cs.all fun f=>Df f.todo)=true)(hj:look t j= .pointer (some ⟨b,0,none⟩))(hb:H.get b=some (.cells (Ac k l) e ro))(he1:e≠1)(hr:BA X N ⟨⟨fn,t.put j (some (.pointer (some ⟨H.next,0,some 0⟩))),n,todo,ds,r,kd,rd⟩,cs,(H.del b).alloc (.vec k l ro)⟩ Φ):BA X N ⟨⟨fn,t,n,todo,ds,r,kd,rd⟩,cs,H⟩ Φ:=by
 intro base W0 hb0 hok hplan cs0 Z fr cs' W hm;obtain⟨hH,hlaid,g,gs,hfr,hcs,hnd⟩:=hm;cases hfr with
 | plain fn t n tm todo todo' ds ds' r kd rd rd' ht hi2 hd2 hr2=>
  have hj2:=ht.2 j;rw[hj]at hj2;obtain⟨T,hT⟩:=Jr hj2;obtain⟨h3,h2⟩:=hH.u6 hb hT he1;have hcs2:=P0 (ks:=[]) (H':=(H.del b).alloc (.vec k l ro)) (hcs.mono (h2.keeps _)) hds;have e:cs.map (Iu [])=cs:=by
   refine(AB9 fun f _=>?_).trans (ADN _);cases f;rfl
  rw[e]at hcs2;refine hr base W0 hb0 hok hplan cs0 _ _ cs' W ⟨h3,hlaid.mono h2.le,[],[],.plain fn _ n tm todo todo' ds ds' r kd rd rd' ⟨ht.1,fun u=>?_⟩ (hi2.mono h2.le) (hd2.mono h2.le) (hr2.mono h2.le),hcs2,by simp⟩
  by_cases hu:u=j
  .subst hu;have hi3:=ht.2 u;rw[hj]at hi3;rw[E7];generalize tm.getD u Go.undef=w at hi3;cases hi3 with
   | ptr _ _ T2 hT2=>
    rw[hT]at hT2;cases hT2
    have:=AF.HV (Z:=Z.ext H.next ⟨T.c,T.d,T.r,k.length⟩) H.next 0 0 _ (AW.AY _ _ _) (by unfold AT;decide);rw[ABy]at this;exact this
  .rw[FM _ _ hu];exact(ht.2 u).mono h2.le
 | drawn fn t n tm ops BP idx D G k k' ds ds' kd rd rd' hD hk2 hd2 hr2=>cases hd
end Go.AB
namespace Go.AB
open Go.Proofs
theorem pX:CH Tryz.prog AG OS (Nx SC):=K6 WT
def hU:GN:=fun args H K=>match args with
 | []=>K SC.v H
 | _=>False
def wK:List Gc:=[(OS,Nx SC,hU)]
theorem cx:Ct wK:= .other pX (fun X g hX args H K hk=>by
 change hU args H K at hk
 unfold hU at hk;split at hk
 .refine⟨_,_,?_,hk⟩;unfold B3;simp only[hX];rfl
 .exact hk.elim) .nil
abbrev XU:Ctx:=BY Tryz.prog AG (C8 wK)
abbrev kW:EK:=[.int .u32]
def Nl:Au:=(List.range 256).map fun i=>match SC.v with
 | .agg xs=>match xs.toList.getD i (.bool true)with
  | .int _ m=>m
  | _=>0
 | _=>0
def X9:List Cs:=[.code (BN Tryz.prog A8 [1,1,1,0,1,0,0]),.inLoop (BN Tryz.prog A8 [1,1,1,0,1,0,0]),.inBlock 0,.code (BN Tryz.prog A8 [1,1,1,1])]
def lM(l:Au)(x:Int)(j n:Nat)(i:Int)(cs:AL):BU:=
 ⟨⟨A8,JS [(5,Al 21),(6,.int .u32 x),(12,.slice (some ⟨20,0,some j⟩) n 18446744073709551616),(13,int n),(14,int i)],A5 A8,X9,[],false,.normal,none⟩,[],hp [.vec kB l true,.cells cs 0 false]⟩
def wH(l:Au)(x:Int)(j n:Nat)(i:Int)(tb:Au):BU:=
 ⟨⟨A8,JS [(5,.pointer (some ⟨21,0,some 0⟩)),(6,.int .u32 x),(12,.slice (some ⟨20,0,some j⟩) n 18446744073709551616),(13,int n),(14,int i)],A5 A8,X9,[],false,.normal,none⟩,[],hp [.vec kB l true,.vec kW tb false]⟩
def nQ:Stop:=⟨A8,0,3,21,[20],[5,6,12,13,14]⟩
theorem uS(l:Au)(x:Int)(j n:Nat)(Q:Bz)(R:Cy):Pj XU (As wK) [] A8 [] nQ [] Q R 200 (st A8 [.int .u32 x,.slice (some ⟨20,0,some j⟩) n 18446744073709551616] (hp [.vec kB l true]))=(
 let a:=IntKind.bits IntKind.u32;(R (lM l (IntKind.wrap IntKind.u32 ((BitVec.toNat (BitVec.ofInt a x ^^^ BitVec.ofInt a 4294967295)):Int)) j n 0 (Ac kW Nl)))):=by kernel_rfl
def x8(a b:Int):Int:=IntKind.wrap .u8 ((BitVec.toNat (BitVec.ofInt (IntKind.bits .u8) a ^^^ BitVec.ofInt (IntKind.bits .u8) b)):Int)
def qn(a b:Int):Int:=IntKind.wrap .u32 ((BitVec.toNat (BitVec.ofInt (IntKind.bits .u32) a ^^^ BitVec.ofInt (IntKind.bits .u32) b)):Int)
def Zj(x c:Int):Int:=x8 (IntKind.wrap .u8 x) c
def OB(tb:Au)(x c:Int):Int:=qn (tb.getD (0+(Zj x c).toNat) (EK.BJ kW)) (Int.fdiv x (2 ^ min 8 (IntKind.bits .u32)))
def OH(l:Au)(x:Int)(j n:Nat)(i:Int)(tb:Au)(E K:Prop):Prop:=
 bif decide (i < (n:Int))then(bif decide (0<=i)&&Nat.blt i.toNat n then(bif Nat.blt (j+i.toNat) l.length then
  (bif decide (0<=Zj x (l.getD (j+i.toNat) (EK.BJ kB)))&&Nat.blt (Zj x (l.getD (j+i.toNat) (EK.BJ kB))).toNat 256 then
   (bif Nat.blt (0+(Zj x (l.getD (j+i.toNat) (EK.BJ kB))).toNat) tb.length then K else False)else False)else False)else False)else E
theorem fe(l:Au)(x:Int)(j n:Nat)(i:Int)(tb:Au)(Q:Bz)(R:Cy):Pj XU (As wK) [] A8 [] nQ [] Q R 200 (wH l x j n i tb)=
 OH l x j n i tb (Q (.int .u32 (qn x 4294967295)) []) (R (wH l (OB tb x (l.getD (j+i.toNat) (EK.BJ kB))) j n (IntKind.wrap .i64 (i+1)) tb)):=by kernel_rfl
def wh(l:Au)(x:Int)(j n:Nat)(i:Int)(tb:Au):BU:=
 ⟨⟨A8,(JS [(5,Al 21),(6,.int .u32 x),(12,.slice (some ⟨20,0,some j⟩) n 18446744073709551616),(13,int n),(14,int i)]).put 5 (some (.pointer (some ⟨22,0,some 0⟩))),A5 A8,X9,[],false,.normal,none⟩,[],
  ((hp [.vec kB l true,.cells (Ac kW tb) 0 false]).del 21).alloc (.vec kW tb false)⟩
theorem kG(l:Au)(x:Int)(j n:Nat)(i:Int)(tb:Au)(Q:Bz)(R:Cy):Pj XU (As wK) [] A8 [] nQ [] Q R 200 (wh l x j n i tb)=
 OH l x j n i tb (Q (.int .u32 (qn x 4294967295)) []) (R (wH l (OB tb x (l.getD (j+i.toNat) (EK.BJ kB))) j n (IntKind.wrap .i64 (i+1)) tb)):=by kernel_rfl
theorem iJ(n:Int):0<=IntKind.u8.wrap n/\IntKind.u8.wrap n < 256:=by simp[IntKind.wrap,IntKind.bits,IntKind.signed];omega
theorem ux(x c:Int):0<=Zj x c/\Zj x c < 256:=iJ _
theorem TO{l:Au}{x:Int}{j n i:Nat}{tb:Au}{E K:Prop}(hl:j+n<=l.length)(ht:tb.length=256)(hi:i < n)(hK:K):OH l x j n (i:Int) tb E K:=by
 obtain⟨h1,h2⟩:=ux x (l.getD (j+(i:Int).toNat) (EK.BJ kB));unfold OH;generalize Zj x (l.getD (j+(i:Int).toNat) (EK.BJ kB))=c at h1 h2;refine AD (AAY (by omega)) (AD ?_ (AD ?_ (AD ?_ (AD ?_ hK))))
 .simp only[AAa,AAQ,AAl];exact⟨by omega,AAS hi⟩
 .rw[AAa];exact AAS (by omega)
 .simp only[AAQ,AAl];exact⟨h1,AAS (by omega)⟩
 .rw[ht];exact AAS (by omega)
theorem Qq{l:Au}{x:Int}{j n i:Nat}{tb:Au}{E K:Prop}(hi:n<=i)(hE:E):OH l x j n (i:Int) tb E K:=by
 unfold OH;exact AK (AAb (by omega)) hE
def LY(tb:Au)(x:Int)(l:Au):Int:=qn (l.foldl (OB tb) x) 4294967295
theorem rH{l:Au}{j n i:Nat}(hl:j+n<=l.length)(hi:i < n)(tb:Au)(x:Int):LY tb x ((l.drop (j+i)).take (n - i))=LY tb (OB tb x (l.getD (j+(i:Int).toNat) (EK.BJ kB))) ((l.drop (j+(i+1))).take (n - (i+1))):=by
 have hlt:j+i < l.length:=by omega
 unfold LY;rw[ABm hlt,show n - i=(n - (i+1))+1 by omega,ACz,ACw,AAa,AAX,AAU hlt];rfl
theorem Z0{n i:Nat}(hb:n < 1000000)(hi:i < n):IntKind.wrap .i64 ((i:Int)+1)=((i+1:Nat):Int):=by rw[wrap64 (by omega) (by omega)];rfl
theorem pr{l:Au}{j n:Nat}{tb:Au}(hl:j+n<=l.length)(ht:tb.length=256)(hb:n < 1000000):∀(q i:Nat)(x:Int),n - i=q->i<=n->Aa XU 21 A8 (fun v _=>v= .int .u32 (LY tb x ((l.drop (j+i)).take (n - i)))) (wH l x j n i tb):=by
 intro q;induction q with
 | zero=>
  intro i x hq hi;refine DA cx.pf [] [] nQ [] (by kernel_rfl) (AAT _) (fun v _=>v= .int .u32 (LY tb x ((l.drop (j+i)).take (n - i)))) (fun _=>False) (fun v H h=>h) (fun c h=>h.elim) (n:=200) ?_;rw[fe];exact Qq (by omega) (by rw[hq];rfl)
 | succ q ih=>
  intro i x hq hi;refine DA cx.pf [] [] nQ [] (by kernel_rfl) (AAT _) (fun _ _=>False) (fun c=>c=wH l (OB tb x (l.getD (j+(i:Int).toNat) (EK.BJ kB))) j n (i+1:Nat) tb) (fun v H h=>h.elim) (fun c h=>?_) (n:=200) ?_
  .rw[h,rH hl (by omega)];exact ih (i+1) _ (by omega) (by omega)
  .rw[fe,Z0 hb (by omega)];exact TO hl ht (by omega) rfl
theorem jh{l:Au}{j n:Nat}{tb:Au}(hl:j+n<=l.length)(ht:tb.length=256)(hb:n < 1000000)(x:Int):Aa XU 21 A8 (fun v _=>v= .int .u32 (LY tb x ((l.drop j).take n))) (wh l x j n 0 tb):=by
 by_cases h0:n=0
 .subst h0;refine DA cx.pf [] [] nQ [] (by kernel_rfl) (AAT _) (fun v _=>v= .int .u32 (LY tb x ((l.drop j).take 0))) (fun _=>False) (fun v H h=>h) (fun c h=>h.elim) (n:=200) ?_;rw[kG];exact Qq (i:=0) (AAT _) rfl
 .refine DA cx.pf [] [] nQ [] (by kernel_rfl) (AAT _) (fun _ _=>False) (fun c=>c=wH l (OB tb x (l.getD (j+((0:Nat):Int).toNat) (EK.BJ kB))) j n (0+1:Nat) tb) (fun v H h=>h.elim) (fun c h=>?_) (n:=200) ?_
  .have:=rH hl (i:=0) (by omega) tb x;rw[AB6,ADF]at this;rw[h,this];exact pr hl ht hb (n - 1) 1 _ (by omega) (by omega)
  .rw[kG];have:=Z0 hb (i:=0) (by omega);rw[show(0:Int)=((0:Nat):Int)from rfl,this];exact TO hl ht (by omega) rfl
theorem ja{l:Au}{j n:Nat}{tb:Au}(hl:j+n<=l.length)(ht:tb.length=256)(hb:n < 1000000)(x:Int):Aa XU 21 A8 (fun v _=>v= .int .u32 (LY tb x ((l.drop j).take n))) (lM l x j n 0 (Ac kW tb)):=by
 unfold Aa lM;refine BA.rowP 21 5 kW tb (by kernel_rfl) (by kernel_rfl) (by kernel_rfl) (e:=0) (ro:=false) (by kernel_rfl) (by decide) ?_;exact jh hl ht hb x
theorem Y2:Nl.length=256:=by unfold Nl;simp
def HX(x:Int)(l:Au):Int:=LY Nl (qn x 4294967295) l
theorem qC(l:Au)(x:Int)(j n:Nat)(Q:Bz)(R:Cy):Pj XU (As wK) [] A8 [] nQ [] Q R 200 (st A8 [.int .u32 x,.slice (some ⟨20,0,some j⟩) n 18446744073709551616] (hp [.vec kB l true]))=R (lM l (qn x 4294967295) j n 0 (Ac kW Nl)):=by
 rw[uS];exact congrArg R rfl
theorem nF{l:Au}{j n:Nat}(hl:j+n<=l.length)(hb:n < 1000000)(x:Int):Aa XU 21 A8 (fun v _=>v= .int .u32 (HX x ((l.drop j).take n))) (st A8 [.int .u32 x,.slice (some ⟨20,0,some j⟩) n 18446744073709551616] (hp [.vec kB l true])):=by
 refine DA cx.pf [] [] nQ [] (by kernel_rfl) (AAT _) (fun _ _=>False) (fun c=>c=lM l (qn x 4294967295) j n 0 (Ac kW Nl)) (fun v H h=>h.elim) (fun c h=>?_) (n:=200) ?_
 .rw[h];exact ja hl Y2 hb _
 .rw[qC]
def uY(args:AL)(objs:Ay):GT:=match args,objs with
 | [.int .u32 x,.slice (some ⟨20,0,some j⟩) n 18446744073709551616],[.vec [.int .u8] l _]=> .ask (j+n<=l.length/\n < 1000000) (.ret ⟨.int .u32 (HX x ((l.drop j).take n)),[],[]⟩)
 | _,_=> .fail
theorem oD:CH Tryz.prog AG A8 (Ab AG 20 [] uY):=by
 refine Ar cx.all (by kernel_rfl) (n:=A5 A8) (by kernel_rfl) (by kernel_rfl) fun argsc objs x hx hro=>?_
 clear hro;unfold uY at hx;split at hx
 .rename_i x j n l ro;simp only[GT.run]at hx;split at hx
  .rename_i hp0;cases hx
   obtain⟨hl,hb⟩:=hp0;exact⟨VC (by kernel_rfl),AZ.mono (Q:=fun v _=>v= .int .u32 (HX x ((l.drop j).take n))) (Aa.FG (nF hl hb x)) fun v H hv=>by subst hv;exact Cp rfl⟩
  .cases hx
 .cases hx
def zK:List Gc:=[EX A8 [] uY]
theorem wc:Ct zK:= .cons oD .nil
abbrev XSm:Ctx:=BY Tryz.prog AG (C8 zK)
def pV(args:AL)(objs:Ay):GT:=match args,objs with
 | [.slice (some ⟨20,0,some j⟩) n 18446744073709551616],[.vec [.int .u8] l _]=> .ask (j+n<=l.length/\n < 1000000) (.ret ⟨.int .u32 (HX 0 ((l.drop j).take n)),[],[]⟩)
 | _,_=> .fail
theorem sZ(l:Au)(j n:Nat)(Q:Bz):Bu XSm (As zK) [] GF [] 21 Q 100 (st GF [.slice (some ⟨20,0,some j⟩) n 18446744073709551616] (hp [.vec kB l true]))=
 ((j+n<=l.length/\n < 1000000)/\Q (.int .u32 (HX 0 ((l.drop j).take n))) []):=by kernel_rfl
theorem Z1:CH Tryz.prog AG GF (Ab AG 20 [] pV):=by
 refine Ar wc.all (by kernel_rfl) (n:=A5 GF) (by kernel_rfl) (by kernel_rfl) fun argsc objs x hx hro=>?_
 clear hro;unfold pV at hx;split at hx
 .rename_i j n l ro;simp only[GT.run]at hx;split at hx
  .rename_i hp0;cases hx
   refine⟨VC (by kernel_rfl),AZ.mono (Q:=fun v _=>v= .int .u32 (HX 0 ((l.drop j).take n))) (Aa.FG ?_) fun v H hv=>by subst hv;exact Cp rfl⟩;have hv:Bu XSm (As zK) [] GF [] 21 (fun v _=>v= .int .u32 (HX 0 ((l.drop j).take n))) 100 (st GF [.slice (some ⟨20,0,some j⟩) n 18446744073709551616] (hp [.vec kB l true])):=(sZ l j n _).mpr ⟨hp0,rfl⟩;exact Av wc.pf (by kernel_rfl) hv
  .cases hx
 .cases hx
def iy:List Gc:=[EX Fl [] (SH kB 1)]
theorem uk:Ct iy:= .cons V0 .nil
abbrev lv:Ctx:=BY Tryz.prog AG (C8 iy)
theorem vq(q:Int)(Q:Bz):Bu lv (As iy) [] Aw [] 20 Q 900 (st Aw [.slice none 0 0,.int .u64 q,int 4] (hp []))=(
 let a:=IntKind.bits IntKind.u64;(bif Int.fdiv q (2 ^ min 32 a)==0 then(Q (.tuple ⟨[(.slice (some ⟨29,0,none⟩) 4 18446744073709551620),(int 0)]⟩) [some (.cells [(.int IntKind.u8 (IntKind.wrap IntKind.u8 (Int.fdiv q (2 ^ min 0 a)))),(.int IntKind.u8 (IntKind.wrap IntKind.u8 (Int.fdiv q (2 ^ min 8 a)))),(.int IntKind.u8 (IntKind.wrap IntKind.u8 (Int.fdiv q (2 ^ min 16 a)))),(.int IntKind.u8 (IntKind.wrap IntKind.u8 (Int.fdiv q (2 ^ min 24 a))))] 1 false)])else(Q (.tuple ⟨[(.slice none 0 0),(int 16)]⟩) []))):=by kernel_rfl
theorem sF(l:Au)(m:Nat)(q:Int)(Q:Bz):Bu lv (As iy) [] Aw [] 21 Q 900 (st Aw [Aq 20 m,.int .u64 q,int 1] (hp [.vec kB l true]))=(
 let b:=IntKind.bits IntKind.u64;let a:=List.take m (List.drop 0 l);(bif Int.fdiv q (2 ^ min 8 b)==0 then(0+m<=l.length/\Bn 1 m=true)/\(bif true&&Nat.ble (0+m) a.length&&Bn 1 (m+1)then(Q (.tuple ⟨[(Aq 25 (m+1)),(int 0)]⟩) [some (.vec ([SK.int IntKind.u8]) (List.take m (List.drop 0 a)++[IntKind.wrap IntKind.u8 (Int.fdiv q (2 ^ min 0 b))]) false)])else False)else(Q (.tuple ⟨[(.slice none 0 0),(int 16)]⟩) []))):=by kernel_rfl
theorem sY(l:Au)(m:Nat)(q:Int)(Q:Bz):Bu lv (As iy) [] Aw [] 21 Q 900 (st Aw [Aq 20 m,.int .u64 q,int 2] (hp [.vec kB l true]))=(
 let c:=List.take m (List.drop 0 l);let b:=IntKind.bits IntKind.u64;let a:=List.take m (List.drop 0 c)++[IntKind.wrap IntKind.u8 (Int.fdiv q (2 ^ min 0 b))];(bif Int.fdiv q (2 ^ min 16 b)==0 then(0+m<=l.length/\Bn 1 m=true)/\(bif true&&Nat.ble (0+m) c.length&&Bn 1 (m+1)then(bif true&&Nat.ble (0+(m+1)) a.length&&Bn 1 (m+1+1)then(Q (.tuple ⟨[(Aq 27 (m+1+1)),(int 0)]⟩) [some (.vec ([SK.int IntKind.u8]) (List.take (m+1) (List.drop 0 a)++[IntKind.wrap IntKind.u8 (Int.fdiv q (2 ^ min 8 b))]) false)])else False)else False)else(Q (.tuple ⟨[(.slice none 0 0),(int 16)]⟩) []))):=by kernel_rfl
theorem uU(l:Au)(m:Nat)(q:Int)(Q:Bz):Bu lv (As iy) [] Aw [] 21 Q 900 (st Aw [Aq 20 m,.int .u64 q,int 8] (hp [.vec kB l true]))=(
 let r:=m+1+1+1;let p:=List.take m (List.drop 0 l);let o:=m+1+1+1+1+1+1+1+1;let n:=m+1+1+1+1;let k:=m+1+1+1+1+1;let j:=m+1+1+1+1+1+1;let i:=m+1+1+1+1+1+1+1;let d:=IntKind.bits IntKind.u64;let e:=List.take m (List.drop 0 p)++[IntKind.wrap IntKind.u8 (Int.fdiv q (2 ^ min 0 d))];let c:=List.take (m+1) (List.drop 0 e)++[IntKind.wrap IntKind.u8 (Int.fdiv q (2 ^ min 8 d))];let h:=List.take (m+1+1) (List.drop 0 c)++[IntKind.wrap IntKind.u8 (Int.fdiv q (2 ^ min 16 d))];let a:=List.take r (List.drop 0 h)++[IntKind.wrap IntKind.u8 (Int.fdiv q (2 ^ min 24 d))];let g:=List.take n (List.drop 0 a)++[IntKind.wrap IntKind.u8 (Int.fdiv q (2 ^ min 32 d))];let b:=List.take k (List.drop 0 g)++[IntKind.wrap IntKind.u8 (Int.fdiv q (2 ^ min 40 d))];let f:=List.take j (List.drop 0 b)++[IntKind.wrap IntKind.u8 (Int.fdiv q (2 ^ min 48 d))];(0+m<=l.length/\Bn 1 m=true)/\(bif true&&Nat.ble (0+m) p.length&&Bn 1 (m+1)then(bif true&&Nat.ble (0+(m+1)) e.length&&Bn 1 (m+1+1)then(bif true&&Nat.ble (0+(m+1+1)) c.length&&Bn 1 r then(bif true&&Nat.ble (0+r) h.length&&Bn 1 n then(bif true&&Nat.ble (0+n) a.length&&Bn 1 k then(bif true&&Nat.ble (0+k) g.length&&Bn 1 j then(bif true&&Nat.ble (0+j) b.length&&Bn 1 i then(bif true&&Nat.ble (0+i) f.length&&Bn 1 o then(Q (.tuple ⟨[(Aq 39 o),(int 0)]⟩) [some (.vec ([SK.int IntKind.u8]) (List.take i (List.drop 0 f)++[IntKind.wrap IntKind.u8 (Int.fdiv q (2 ^ min 56 d))]) false)])else False)else False)else False)else False)else False)else False)else False)else False)):=by kernel_rfl
def HU(q:Int)(w:Nat):Au:=(List.range w).map fun i=>IntKind.wrap .u8 (Int.fdiv q (2 ^ min (8 * i) (IntKind.bits .u64)))
def Ow(q:Int)(w:Nat):Bool:=Nat.beq w 8||(Int.fdiv q (2 ^ min (8 * w) (IntKind.bits .u64))==0)
structure NX(m:Nat)(l:Au)(q:Int)(w:Int):Prop where
 hm:m=l.length
 hb:m < 100000
 hw:w=1\/w=2\/w=8
 hf:Ow q w.toNat=true
def caG(args:AL)(objs:Ay):GT:=match args,objs with
 | [.slice none 0 0,.int .u64 q,.int .i64 4],[]=> .ask (Ow q 4=true) (.ret ⟨.tuple ⟨[Aq 20 4,int 0]⟩,[],[.vec kB (HU q 4) false]⟩)
 | [.slice (some ⟨20,0,some 0⟩) m 18446744073709551616,.int .u64 q,.int .i64 w],[.vec [.int .u8] l _]=> .ask (NX m l q w) (.ret ⟨.tuple ⟨[Aq 21 (m+w.toNat),int 0]⟩,[],[.vec kB (l++HU q w.toNat) false]⟩)
 | _,_=> .fail
theorem Ly{n:Nat}(h:n < 200000):Bn 1 n=true:=by
 unfold Bn;simp only[ACN];first
  | exact AAS (by omega)
  | (simp;omega)
theorem GS{l:Au}{n:Nat}(h:n=l.length)(hb:n+1 < 200000):(true&&Nat.ble (0+n) l.length&&Bn 1 (n+1))=true:=by
 rw[AB5,AAQ];exact⟨AAS (by omega),Ly hb⟩
theorem Ik{l:Au}{n:Nat}(h:l.length<=n):List.take n (List.drop 0 l)=l:=by rw[AA5,AAc h]
theorem uJ{l:Au}{q:Int}(hb:l.length < 100000)(hf:Ow q 1=true):Bu lv (As iy) [] Aw [] 21 (fun v os=>v= .tuple ⟨[Aq 25 (l.length+1),int 0]⟩/\os=[some (.vec kB (l++HU q 1) false)]) 900 (st Aw [Aq 20 l.length,.int .u64 q,int 1] (hp [.vec kB l true])):=by
 rw[sF];(conv=>zeta);rw[Ik (AAT l.length),Ik (AAT l.length)]
 exact AD hf ⟨⟨by omega,Ly (by omega)⟩,AD (GS rfl (by omega)) ⟨rfl,rfl⟩⟩
theorem sH{l:Au}{q:Int}(hb:l.length < 100000)(hf:Ow q 2=true):Bu lv (As iy) [] Aw [] 21 (fun v os=>v= .tuple ⟨[Aq 27 (l.length+2),int 0]⟩/\os=[some (.vec kB (l++HU q 2) false)]) 900 (st Aw [Aq 20 l.length,.int .u64 q,int 2] (hp [.vec kB l true])):=by
 rw[sY];(conv=>zeta);rw[Ik (AAT l.length),Ik (AAT l.length),Ik (l:=l++[_]) (by simp)]
 exact AD hf ⟨⟨by omega,Ly (by omega)⟩,AD (GS rfl (by omega)) (AD (GS (by simp) (by omega)) ⟨rfl,by rw[AA2];rfl⟩)⟩
theorem se{l:Au}{q:Int}(hb:l.length < 100000):Bu lv (As iy) [] Aw [] 21 (fun v os=>v= .tuple ⟨[Aq 39 (l.length+8),int 0]⟩/\os=[some (.vec kB (l++HU q 8) false)]) 900 (st Aw [Aq 20 l.length,.int .u64 q,int 8] (hp [.vec kB l true])):=by
 rw[uU];(conv=>zeta);rw[Ik (AAT l.length),Ik (AAT l.length),Ik (l:=l++[_]) (by simp),Ik (l:=l++[_]++[_]) (by simp),Ik (l:=l++[_]++[_]++[_]) (by simp),Ik (l:=l++[_]++[_]++[_]++[_]) (by simp),Ik (l:=l++[_]++[_]++[_]++[_]++[_]) (by simp),Ik (l:=l++[_]++[_]++[_]++[_]++[_]++[_]) (by simp),Ik (l:=l++[_]++[_]++[_]++[_]++[_]++[_]++[_]) (by simp)]
 refine⟨⟨by omega,Ly (by omega)⟩,AD (GS rfl (by omega)) (AD (GS (by simp) (by omega)) (AD (GS (by simp) (by omega)) (AD (GS (by simp) (by omega)) (AD (GS (by simp) (by omega)) (AD (GS (by simp) (by omega)) (AD (GS (by simp) (by omega)) (AD (GS (by simp) (by omega)) ⟨rfl,?_⟩)))))))⟩;simp only[AA2];rfl
theorem KX{z n:Nat}{l:Au}{H:AA}(hz:20<=z)(hg:H.get z=some (.vec kB l false)):D1 AG 20 0 [] ⟨.tuple ⟨[Aq 20 n,int 0]⟩,[],[.vec kB l false]⟩ (.tuple ⟨[Aq z n,int 0]⟩) H:=by
 refine⟨[z],by simp,fun b hb=>by rw[AAg]at hb;rw[hb];exact hz,rfl,rfl,fun j b o hb ho=>?_,fun j o hj=>(by cases hj)⟩;cases j with
 | zero=>cases hb;cases ho;exact⟨_,rfl,hg⟩
 | succ j=>cases hb
theorem lY{z n:Nat}{l:Au}{H:AA}(hz:21<=z)(hg:H.get z=some (.vec kB l false)):D1 AG 20 1 [] ⟨.tuple ⟨[Aq 21 n,int 0]⟩,[],[.vec kB l false]⟩ (.tuple ⟨[Aq z n,int 0]⟩) H:=by
 refine⟨[z],by simp,fun b hb=>by rw[AAg]at hb;rw[hb];exact hz,rfl,rfl,fun j b o hb ho=>?_,fun j o hj hm=>(by cases hm)⟩;cases j with
 | zero=>cases hb;cases ho;exact⟨_,rfl,hg⟩
 | succ j=>cases hb
theorem Te{l r:Au}{args:AL}{z n:Nat}(hz:21<=z)(hq:Bu lv (As iy) [] Aw [] 21 (fun v os=>v= .tuple ⟨[Aq z n,int 0]⟩/\os=[some (.vec kB r false)]) 900 (st Aw args (hp [.vec kB l true]))):
 AZ lv 21 (fun b=>20<=b/\b < 20+1) Aw (fun v H=>D1 AG 20 1 [] ⟨.tuple ⟨[Aq 21 n,int 0]⟩,[],[.vec kB r false]⟩ v H) (st Aw args (hp [.vec kB l true])):=by
 refine AZ.mono (Aa.FG (Av uk.pf (by kernel_rfl) hq)) fun v H ⟨e,hos⟩=>?_
 subst e;have hos:[H.get z]=_:=hos;simp only[AAd,ABF]at hos;exact lY hz hos
theorem vK:CH Tryz.prog AG Aw (Ab AG 20 [] caG):=by
 refine Ar uk.all (by kernel_rfl) (n:=A5 Aw) (by kernel_rfl) (by kernel_rfl) fun argsc objs x hx hro=>?_
 clear hro;unfold caG at hx;split at hx
 .rename_i q;simp only[GT.run]at hx;split at hx
  .rename_i hf;cases hx
   refine⟨VC (by kernel_rfl),AZ.L5 ?_⟩;have hq:Bu lv (As iy) [] Aw [] 20 (fun v os=>v= .tuple ⟨[.slice (some ⟨29,0,none⟩) 4 18446744073709551620,int 0]⟩/\os=[some (.cells (Ac kB (HU q 4)) 1 false)]) 900 (st Aw [.slice none 0 0,.int .u64 q,int 4] (hp [])):=by
    rw[vq];exact AD hf ⟨rfl,rfl⟩
   refine AZ.mono (Aa.FG (Av uk.pf (by kernel_rfl) hq)) fun v H ⟨e,hos⟩=>?_
   subst e;have hos:[H.get 29]=_:=hos;simp only[AAd,ABF]at hos;refine .JN 29 kB (HU q 4) false hos (.xn 29 kB (HU q 4) false (by rw[AA.AQ,AAZ rfl]) (by intro h;have:=congrArg List.length h;unfold HU at this;simp at this) (by decide) (.tuple ⟨[Aq 29 4,int 0]⟩) (.tuple (.cons ?_ (.cons (.same _) .nil))) (.here (KX (by decide) (by rw[AA.AQ,AAZ rfl]))));have:=Rw.row (r:=29) 4 (AT+4) 4 rfl;rw[EA]at this;exact this
  .cases hx
 .rename_i m q w l ro;simp only[GT.run]at hx;split at hx
  .rename_i hp0;cases hx
   obtain⟨hm,hb,hw,hf⟩:=hp0;subst hm;refine⟨VC (by kernel_rfl),?_⟩;rcases hw with rfl | rfl | rfl
   .exact Te (by decide) (uJ hb hf)
   .exact Te (by decide) (sH hb hf)
   .exact Te (by decide) (se hb)
  .cases hx
 .cases hx
def w9:List Gc:=[EX Aw [] caG]
theorem mf:Ct w9:= .cons vK .nil
abbrev zx:Ctx:=BY Tryz.prog AG (C8 w9)
theorem gP(s k a b q:Int)(Q:Bz):Bu zx (As w9) [] Bf [] 20 Q 3000 (st Bf [.agg ⟨[.int .u32 s,int k,int a,int b,int q]⟩] (hp []))=(
 let p:=IntKind.wrap IntKind.u64 q;let o:=q<=1099511627776;let n:=IntKind.wrap IntKind.u64 b;let l:=IntKind.wrap IntKind.u64 a;let h:=IntKind.wrap IntKind.u64 k;let f:=IntKind.wrap IntKind.u64 s;let m:=NX 4 (HU f 4) h 1;let j:=NX 5 (HU f 4++HU h 1) l 1;let i:=Int.instDecidableEq (Int.fdiv f (2 ^ min 32 (IntKind.bits IntKind.u64))) 0;let g:=NX 6 (HU f 4++HU h 1++HU l 1) n 2;let e:=NX 8 (HU f 4++HU h 1++HU l 1++HU n 2) p 8;let d:Prop:=Q (.tuple ⟨[(Aq 33 16),(int 0)]⟩) [some (.vec ([SK.int IntKind.u8]) (HU f 4++HU h 1++HU l 1++HU n 2++HU p 8) false)];let c:Prop:=Q (.tuple ⟨[(.slice none 0 0),(int 2)]⟩) [];(bif decide (k < 1)then c else(bif decide (k>=4)then c else(bif k==3 then(bif decide (a>=0)then(bif decide (a<=0)then(bif decide (b>=0)then(bif decide (b<=65535)then(bif decide (q>=0)then(bif decide o then((Decidable.rec (fun _=>false) (fun _=>true) i)=(true))/\m/\j/\g/\e/\d else c)else c)else c)else c)else c)else c)else(bif k==2 then(bif decide (a>=1)then(bif decide (a<=32)then(bif decide (b>=0)then(bif decide (b<=0)then(bif decide (q>=1)then(bif decide o then((Decidable.rec (fun _=>false) (fun _=>true) i)=(true))/\m/\j/\g/\e/\d else c)else c)else c)else c)else c)else c)else(bif k==1 then(bif decide (a>=1)then(bif decide (a<=32)then(bif decide (b>=0)then(bif decide (b<=512)then(bif decide (q>=1)then(bif decide o then((Decidable.rec (fun _=>false) (fun _=>true) i)=(true))/\m/\j/\g/\e/\d else c)else c)else c)else c)else c)else c)else(bif k==0 then(bif decide (a>=0)then(bif decide (a<=0)then(bif decide (b>=0)then(bif decide (b<=0)then(bif decide (q>=0)then(bif decide (q<=0)then((Decidable.rec (fun _=>false) (fun _=>true) i)=(true))/\m/\j/\g/\e/\d else c)else c)else c)else c)else c)else c)else False))))))):=by kernel_rfl
structure YF(s k a b q:Int):Prop where
 s0:0<=s
 s1:s < 4294967296
 hk:k=1\/(k=2/\b=0)
 a0:1<=a
 a1:a<=32
 b0:0<=b
 b1:b<=512
 q0:1<=q
 q1:q<=1099511627776
def R5(s k a b q:Int):Au:=HU s 4++HU k 1++HU a 1++HU b 2++HU q 8
theorem Lo{x:Int}(h0:0<=x)(h1:x < 18446744073709551616):IntKind.wrap .u64 x=x:=by
 simp[IntKind.wrap,IntKind.bits,IntKind.signed];omega
theorem iF{x:Int}{n:Nat}(h0:0<=x)(h1:x < 2 ^ n):(Int.fdiv x (2 ^ n)==0)=true:=by
 rw[AC2 _ (Int.le_of_lt (by exact Int.pow_pos (by decide))),Int.ediv_eq_zero_of_lt h0 h1];rfl
theorem xy{x:Int}(h0:0<=x)(h1:x < 4294967296):Ow x 4=true:=by
 unfold Ow;rw[ABa];exact .inr (iF (n:=32) h0 h1)
theorem qF{x:Int}(h0:0<=x)(h1:x < 256):Ow x 1=true:=by
 unfold Ow;rw[ABa];exact .inr (iF (n:=8) h0 h1)
theorem yf{x:Int}(h0:0<=x)(h1:x < 65536):Ow x 2=true:=by
 unfold Ow;rw[ABa];exact .inr (iF (n:=16) h0 h1)
theorem Hk(q:Int)(w:Nat):(HU q w).length=w:=by unfold HU;simp
theorem uH{s k a b q:Int}(h:YF s k a b q):Bu zx (As w9) [] Bf [] 20 (fun v os=>v= .tuple ⟨[Aq 33 16,int 0]⟩/\os=[some (.vec kB (R5 s k a b q) false)]) 3000 (st Bf [.agg ⟨[.int .u32 s,int k,int a,int b,int q]⟩] (hp [])):=by
 obtain⟨s0,s1,hk,a0,a1,b0,b1,q0,q1⟩:=h;have k0:1<=k/\k<=2:=by omega
 have c1:NX 4 (HU s 4) k 1:=⟨(Hk s 4).symm,by decide,.inl rfl,qF (by omega) (by omega)⟩;have c2:NX 5 (HU s 4++HU k 1) a 1:=⟨by simp only[AAf,Hk],by decide,.inl rfl,qF (by omega) (by omega)⟩;have c3:NX 6 (HU s 4++HU k 1++HU a 1) b 2:=⟨by simp only[AAf,Hk],by decide,.inr (.inl rfl),yf (by omega) (by omega)⟩;have c4:NX 8 (HU s 4++HU k 1++HU a 1++HU b 2) q 8:=⟨by simp only[AAf,Hk],by decide,.inr (.inr rfl),rfl⟩;have c0:Ow s 4=true:=xy s0 s1;rw[gP];(conv=>zeta);rw[Lo (x:=s) (by omega) (by omega),Lo (x:=k) (by omega) (by omega),Lo (x:=a) (by omega) (by omega),Lo (x:=b) (by omega) (by omega),Lo (x:=q) (by omega) (by omega)]
 refine AU (fun g=>absurd g (by omega)) fun _=>AU (fun g=>absurd g (by omega)) fun _=>?_
 rcases hk with rfl | ⟨rfl,rfl⟩
 .refine AK rfl (AK rfl (AD rfl ?_));exact AD (AAY a0) (AD (AAY a1) (AD (AAY b0) (AD (AAY b1) (AD (AAY q0) (AD (AAY q1) ⟨c0,c1,c2,c3,c4,rfl,rfl⟩)))))
 .refine AK rfl (AD rfl ?_);exact AD (AAY a0) (AD (AAY a1) (AD (AAY b0) (AD (AAY (by omega)) (AD (AAY q0) (AD (AAY q1) ⟨c0,c1,c2,c3,c4,rfl,rfl⟩)))))
def z8(args:AL)(objs:Ay):GT:=match args,objs with
 | [.agg ⟨[.int .u32 s,.int .i64 k,.int .i64 a,.int .i64 b,.int .i64 q]⟩],[]=> .ask (YF s k a b q) (.ret ⟨.tuple ⟨[Aq 20 16,int 0]⟩,[],[.vec kB (R5 s k a b q) false]⟩)
 | _,_=> .fail
theorem nE:CH Tryz.prog AG Bf (Ab AG 20 [] z8):=by
 refine Ar mf.all (by kernel_rfl) (n:=A5 Bf) (by kernel_rfl) (by kernel_rfl) fun argsc objs x hx hro=>?_
 clear hro;unfold z8 at hx;split at hx
 .rename_i s k a b q;simp only[GT.run]at hx;split at hx
  .rename_i h;cases hx
   refine⟨VC (by kernel_rfl),AZ.mono (Aa.FG (Av mf.pf (by kernel_rfl) (uH h))) fun v H ⟨e,hos⟩=>?_⟩;subst e;have hos:[H.get 33]=_:=hos;simp only[AAd,ABF]at hos;exact KX (by decide) hos
  .cases hx
 .cases hx
end Go.AB
namespace Go.AB
open Go.Proofs
end Go.AB
namespace Go.AB
open Go.Proofs
def uOr(acc x:Int)(sh:Nat):Int:=IntKind.wrap .u64 ((BitVec.toNat (BitVec.ofInt (IntKind.bits .u64) acc ||| BitVec.ofInt (IntKind.bits .u64) (IntKind.wrap .u64 (IntKind.wrap .u64 x * 2 ^ min sh (IntKind.bits .u64))))):Int)
def dO(g:Nat->Int):Nat->Int
 | 0=>0
 | w+1=>uOr (dO g w) (g w) (8 * w)
def Ra(l:Au)(p t:Nat):Int:=l.getD (p+t) (EK.BJ kB)
structure AAK(l:Au)(j n:Nat)(i w:Int):Prop where
 i0:0<=i
 i1:i+w<=n
 hl:j+n<=l.length
 hb:n < 100000
 hw:w=1\/w=2\/w=4\/w=8
end Go.AB
namespace Go.AB
open Go.Proofs
end Go.AB
namespace Go.AB
open Go.Proofs
theorem uR(v:Ag)(m:Int)(Q:Bz):Bu X0 Dn [] EC [] 20 Q 100 (st EC [.string v,int m] (hp []))=(
 (bif decide (m < 0)then(Q (int 2) [])else(bif decide (m > 512)then(Q (int 2) [])else(bif decide (Int.ofNat v.size > m)then(Q (int 12) [])else(Q (int 0) []))))):=by kernel_rfl
def AAM(args:AL)(objs:Ay):GT:=match args,objs with
 | [.slice (some ⟨20,0,some j⟩) n 18446744073709551616,.int .u32 s],[.vec [.int .u8] l _]=> .ask (j+n<=l.length/\n < 1000000) (.ret ⟨.bool (HX 0 ((l.drop j).take n)==s),[],[]⟩)
 | _,_=> .fail
def Mc(v:Ag)(m:Int):Int:=bif decide (m < 0)||decide (m > 512)then 2 else bif decide (Int.ofNat v.size > m)then 12 else 0
def tj(args:AL)(objs:Ay):GT:=match args,objs with
 | [.string v,.int .i64 m],[]=> .ret ⟨int (Mc v m),[],[]⟩
 | _,_=> .fail
theorem oo:CH Tryz.prog AG EC (Ab AG 20 [] tj):=by
 refine Ar (CQ.nil _ _) (by kernel_rfl) (n:=A5 EC) (by kernel_rfl) (by kernel_rfl) fun argsc objs x hx hro=>?_
 clear hro;unfold tj at hx;split at hx
 .rename_i v m;cases hx
  have hv:Bu X0 Dn [] EC [] 20 (fun w _=>w=int (Mc v m)) 100 (st EC [.string v,int m] (hp [])):=by
   rw[uR];unfold Mc;cases decide (m < 0)<;>cases decide (m > 512)<;>cases decide (Int.ofNat v.size > m)<;>exact rfl
  exact⟨VC (by kernel_rfl),AZ.mono (Aa.FG (Av (By _) (by kernel_rfl) hv)) fun v H e=>by have e:v=_:=e;subst e;exact Cp rfl⟩
 .cases hx
structure zW where
 s:Int
 k:Int
 a:Int
 b:Int
 q:Int
def hdZ:zW:=⟨0,0,0,0,0⟩
def fg(h:zW):Value:= .agg ⟨[.int .u32 h.s,int h.k,int h.a,int h.b,int h.q]⟩
def sp6(a b q a0 a1 b0 b1 q0 q1:Int):Bool:=decide (a>=a0)&&decide (a<=a1)&&decide (b>=b0)&&decide (b<=b1)&&decide (q>=q0)&&decide (q<=q1)
def xf(h:zW):Bool:=bif decide (h.k < 1)then false else bif decide (h.k>=4)then false else
 bif h.k==3 then sp6 h.a h.b h.q 0 0 0 65535 0 1099511627776 else bif h.k==2 then sp6 h.a h.b h.q 1 32 0 0 1 1099511627776 else sp6 h.a h.b h.q 1 32 0 512 1 1099511627776
def wT(l:Au)(j:Nat):zW:=⟨IntKind.wrap .u32 (dO (Ra l (j+0)) 4),IntKind.wrap .i64 (dO (Ra l (j+4)) 1),IntKind.wrap .i64 (dO (Ra l (j+5)) 1),IntKind.wrap .i64 (dO (Ra l (j+6)) 2),IntKind.wrap .i64 (dO (Ra l (j+8)) 8)⟩
structure Gk where
 ok:AL->Prop
 v:AL->Value
open Classical in
def Gk.F(q:Gk):DL:=fun args H=>if q.ok args then some (q.v args,H)else none
def Gk.p(q:Gk):GN:=fun args H K=>q.ok args/\K (q.v args) H
theorem Gk.yS{q:Gk}{X:Ctx}{f:FuncId}(hX:X.Hp f=some q.F)(args:AL)(H:AA)(K:H5)(h:q.p args H K):∃v H',B3 X f args .normal H=some (v,H')/\K v H':=by
 refine⟨q.v args,H,?_,h.2⟩;unfold B3;simp only[hX];unfold Gk.F;exact AAZ h.1
theorem Pu{f:FuncId}(he:entry Tryz.prog f=some (A5 f,BN Tryz.prog f [])){q:Gk}(hF:∀args,q.ok args->args.all flat=true/\args.length<=A5 f/\flat (q.v args)=true/\∃fs,CQ Tryz.prog AG fs/\Aa (BY Tryz.prog AG fs) 20 f (fun v' _=>v'=q.v args) (st f args (hp []))):CH Tryz.prog AG f q.F:=by
 refine⟨⟨_,_,he⟩,?_⟩;intro base W0 Z H W args args' v H' hW hH hl ha hFv;unfold Gk.F at hFv;split at hFv
 .rename_i hq;cases hFv
  obtain⟨h1,h2,h3,fs,hfs,h4⟩:=hF args hq;have hW1:Dt (BY Tryz.prog AG fs) (base.at W) W:=by
   have:=hW.carry hH;unfold Dt at this ⊢;exact this
  obtain⟨s1,s2⟩:=MG (X:=BY Tryz.prog AG fs) hW1 (none_le _) (fun _ hi=>hi) (n:=20) (MO (by kernel_rfl));have s3:=s1.sub (H':=(hp [])) (fun b o e=>by cases e) (F9 _ _).symm;have hargs:args'.toList=args:=KT args _ h1 ha;intro cs;obtain⟨c',⟨v2,Hf,hd,rfl⟩,μ1,fr1,cs1,W1,st,m1⟩:=h4 (base.at W) W (fun b T hb=>by cases hb) (hfs.Hp _ _ hW1) (Gq (by kernel_rfl) rfl) cs _ _ [] W (LA s3 s2 he (by rw[hargs];exact IG args h1) h2);obtain⟨rfl,hf,v',e1,e2,e3⟩:=KA m1 hd;have hs':Steps (BY Tryz.prog AG fs).P (lone (Frame.enter (BY Tryz.prog AG fs).P f args' .normal) cs W) (lone fr1 cs W1):=by simpa using st
  refine⟨.returned v',W1,fr1,⟨v',Z,rfl,hH.carry (Mq e2) e2.below e2.out e2.os,?_,Ah.refl _ _⟩,hs',hf,e1⟩;rw[LN h3 e3];exact D4 h3
 .cases hFv
theorem aC{X:Ctx}{f:FuncId}{p:GN}{rest:Pf}(h:∀args H (K:H5),p args H K->∃v H',B3 X f args .normal H=some (v,H')/\K v H')(hr:Hm X rest):Hm X (fun g=>bif Nat.beq g f then some p else rest g):=by
 intro g F hg args H K hF;cases hb:Nat.beq g f
 .simp only[hb,AAR]at hg;exact hr g F hg args H K hF
 .simp only[hb,AAO,AAN]at hg;subst hg;have:=AAP hb;subst this
  exact h args H K hF
end Go.AB
namespace Go.AB
def Uj(args:AL):DJ:=match args with
 | [.string s,.int .i64 c]=>bif decide (0<=c)&&decide (c<=9223372036854775807)&&Nat.ble (s.size * c.toNat) 140737488355328 then some (.string ⟨⟨Go.Lib.repeatL s.data.toList c.toNat⟩⟩)else none
 | _=>none
def Ku:DL:=fun args H=>match Uj args with | some v=>some (v,H) | none=>none
end Go.AB
namespace Go.AB
open Go.Proofs Go.Shelf Go.RowKit
theorem Sd{P:Program}{laid:DD}{f:FuncId}(he:∃n c,entry P f=some (n,c)){F:AL->DJ}(h:∀args v,F args=some v->args.all flat=true/\flat v=true/\∀w,Calls P f args.toArray w fun e w'=>e= .returned v/\Below w.heap.size w w'):
 CH P laid f (fun args H=>match F args with | some v=>some (v,H) | none=>none):=by
 refine⟨he,?_⟩;intro base W0 Z H W args args' v H' _ hH _ ha hFv;have hFv:F args=some v/\H'=H:=by
  simp only at hFv;split at hFv
  .rename_i v0 e;cases hFv;exact⟨e,rfl⟩
  .cases hFv
 obtain⟨hFv2,rfl⟩:=hFv;obtain⟨h1,h2,h3⟩:=h args v hFv2;have hargs:args'=args.toArray:=by
  have:=KT args _ h1 ha;rw[<-this]
 rw[hargs];refine(h3 W).mono fun e W' ⟨e1,e2⟩=>⟨v,Z,e1,hH.carry e2.size (fun i hi=>e2.block i hi) e2.output e2.os,D4 h2,Ah.refl _ _⟩
theorem Xq{P:Program}{laid:DD}{ρ:Shelf.Ren}(L:Lays.n105 P ρ)(X:Builder.Extra P ρ){f:FuncId}(hf:ρ.f 105=f)(he:∃n c,entry P f=some (n,c)):CH P laid f Ku:=by
 subst hf;refine Sd he fun args v h=>?_
 unfold Uj at h;split at h
 .rename_i s c;cases hb:(decide (0<=c)&&decide (c<=9223372036854775807)&&Nat.ble (s.size * c.toNat) 140737488355328)
  .rw[hb]at h;cases h
  .rw[hb]at h;cases h
   simp only[AAQ,AAl]at hb;obtain⟨⟨h1,h2⟩,h3⟩:=hb;refine⟨rfl,rfl,fun w=>?_⟩;have e:c=((c.toNat:Nat):Int):=by omega
   have:=Any.strings_Repeat L X s c.toNat w (by omega) (VC h3);rw[<-e]at this;exact this
 .cases h
def AAE(n:Int):Ag:=⟨⟨Go.Lib.decDigits n.toNat⟩⟩
open Classical in
def AAG:DL:=fun args H=>match args with
 | [.int .i64 n]=>if 0<=n/\n<=9223372036854775807 then some (.string (AAE n),H)else none
 | _=>none
def ru:AL->Option (List Ag)
 | []=>some []
 | .string s::r=>match ru r with
  | some l=>some (s::l)
  | none=>none
 | _::_=>none
def PN:GN:=fun args H K=>match args with
 | [.string s,.int .i64 c]=>(0<=c/\c<=9223372036854775807/\s.size * c.toNat<=140737488355328)/\K (.string ⟨⟨Go.Lib.repeatL s.data.toList c.toNat⟩⟩) H
 | _=>False
theorem ZG{X:Ctx}{f:FuncId}(hX:X.Hp f=some Ku){args:AL}{H:AA}{K:H5}(h:PN args H K):∃v H',B3 X f args .normal H=some (v,H')/\K v H':=by
 unfold PN at h;split at h
 .rename_i s c;refine⟨_,_,?_,h.2⟩;unfold B3;simp only[hX];unfold Ku Uj;have hc:(decide (0<=c)&&decide (c<=9223372036854775807)&&Nat.ble (s.size * c.toNat) 140737488355328)=true:=by
   simp only[AAQ,AAl];exact⟨⟨h.1.1,h.1.2.1⟩,AAS h.1.2.2⟩
  simp only[hc,AAO]
 .cases h
end Go.AB
namespace Go.AB
open Go.Proofs Go.Shelf Go.RowKit
end Go.AB
namespace Go.AB
open Go.Proofs Go.Shelf Go.RowKit
def isNum(s:Ag):Bool:=match Go.Lib.atoiAll s.data.toList with
 | .ok _=>true
 | _=>false
def tR(s:Ag):Int:=match Go.Lib.atoiAll s.data.toList with
 | .ok v=>v
 | _=>0
def zt(T:TypeId):DL:=fun args H=>match args with
 | [.string s]=>bif Nat.ble s.size 100000 then
  (bif isNum s then some (.tuple ⟨[.int .i64 (tR s),.nilIface]⟩,H)else some (.tuple ⟨[Bo,.iface T Bo]⟩,H))else none
 | _=>none
def wx(n:Int):Ag:=⟨(Go.Lib.itoa n).toArray⟩
open Classical in
def zh:DL:=fun args H=>match args with
 | [.int .i64 n]=>if -9223372036854775808<=n/\n<=9223372036854775807 then some (.string (wx n),H)else none
 | _=>none
def vn(s:Ag)(c:Int):Int:=Go.Lib.indexByte s.data.toList c.toNat.toUInt8
def kj:AL->DJ
 | [.string s,.int .u8 c]=>some (.int .i64 (vn s c))
 | _=>none
def W6:DL:=fun args H=>match kj args with | some v=>some (v,H) | none=>none
theorem gm{P:Program}{laid:DD}{ρ:Shelf.Ren}(L:Lays.n137 P ρ){f:FuncId}(hf:ρ.f 137=f)(he:∃n c,entry P f=some (n,c)):CH P laid f W6:=by
 subst hf;refine Sd he fun args v h=>?_
 unfold kj at h;split at h
 .rename_i s c;cases h
  refine⟨rfl,rfl,fun w=>?_⟩;refine(Any.strings_IndexByte L s c w).mono fun e w' ⟨h1,h2⟩=>⟨h1,?_⟩
  rw[h2];exact Below.refl _ _
 .cases h
end Go.AB
namespace Go.AB
open Go.Proofs
abbrev lets:Ag:={ data:=#[45,46,48,49,50,51,52,53,54,55,56,57,95,97,98,99,100,101,102,103,104,105,106,107,108,109,110,111,112,113,114,115,116,117,118,119,120,121,122] }
abbrev u4:List (FuncId × DL):=[(EO,W6)]
def hY:Ctx:=BY Tryz.prog AG u4
structure Po(s:Ag)(c:Int):Prop where
 no:vn s c= -1
def Wy:GN:=fun args H K=>match args with
 | [.string s,.int .u8 c]=>Po s c/\K (.int .i64 (.negSucc 0)) H
 | _=>False
def j4:Pf:=fun g=>bif Nat.beq g EO then some Wy else Dn g
def yP(r:Nat):Bool:=decide (0<=vn lets r)
theorem gV(Q:Bz):(List.range 128).map (fun r=>qU hY Dn Aj [] Q 600 (st Aj [.string lets,.int .i32 (Int.ofNat r)] (hp [])))=(List.range 128).map (fun r=>Q (.bool (yP r)) []):=by kernel_rfl
theorem lK(r:Int)(Q:Bz):qU hY j4 Aj [] Q 210 (st Aj [.string lets,.int .i32 r] (hp []))=(
 let p:=r<=1114111;let l:Prop:=Q (.bool true) [];let g:Prop:=Q (.bool false) [];let d:=Utf8.encode r;let a:=Int.ofNat d.size - 1;let o:=IntKind.wrap .i64 a - 3;let q:=IntKind.wrap .i64 o;let m:=IntKind.wrap .i64 a < 39;let k:=IntKind.wrap .i64 a - 1;let j:=IntKind.wrap .i64 a - 2;let i:=IntKind.wrap .i64 a+1;let n:=IntKind.wrap .i64 i;let f:=IntKind.wrap .i64 a;let h:=Po (ByteArray.extract lets n.toNat 39) (B5 d f.toNat);let e:=IntKind.wrap .i64 (IntKind.wrap .i64 a - IntKind.wrap .i64 a)>=0;let c:=IntKind.wrap .i64 j;let b:=IntKind.wrap .i64 k;(bif decide (0<=r)then(bif decide (r < 128)then(Po lets (IntKind.wrap IntKind.u8 r))/\g else(bif r==65533 then False else(bif decide (0<=r)then(bif decide (r < 55296)then(bif decide m then(bif decide (0<=IntKind.wrap .i64 a)&&Nat.blt f.toNat lets.size then(bif decide (0<=IntKind.wrap .i64 a)&&Nat.blt f.toNat d.size then(bif B5 lets f.toNat != B5 d f.toNat then(bif decide (0<=39)&&Nat.ble 39 lets.size&&decide (0<=IntKind.wrap .i64 i)&&Nat.ble n.toNat 39 then(bif decide (0<=IntKind.wrap .i64 a)&&Nat.blt f.toNat d.size then h/\g else False)else False)else(bif decide (1 < Int.ofNat d.size)then(bif decide (0<=IntKind.wrap .i64 k)&&Nat.blt b.toNat lets.size then(bif decide (0<=IntKind.wrap .i64 k)&&Nat.blt b.toNat d.size then(bif B5 lets b.toNat != B5 d b.toNat then False else(bif decide (2 < Int.ofNat d.size)then(bif decide (0<=IntKind.wrap .i64 j)&&Nat.blt c.toNat lets.size then(bif decide (0<=IntKind.wrap .i64 j)&&Nat.blt c.toNat d.size then(bif B5 lets c.toNat != B5 d c.toNat then False else(bif decide (3 < Int.ofNat d.size)then(bif decide (0<=IntKind.wrap .i64 o)&&Nat.blt q.toNat lets.size then False else False)else False))else False)else False)else(bif decide e then l else g)))else False)else False)else(bif decide e then l else g)))else False)else False)else g)else(bif decide (57343 < r)then(bif decide p then(bif decide m then(bif decide (0<=IntKind.wrap .i64 a)&&Nat.blt f.toNat lets.size then(bif decide (0<=IntKind.wrap .i64 a)&&Nat.blt f.toNat d.size then(bif B5 lets f.toNat != B5 d f.toNat then(bif decide (0<=39)&&Nat.ble 39 lets.size&&decide (0<=IntKind.wrap .i64 i)&&Nat.ble n.toNat 39 then(bif decide (0<=IntKind.wrap .i64 a)&&Nat.blt f.toNat d.size then h/\g else False)else False)else(bif decide (1 < Int.ofNat d.size)then(bif decide (0<=IntKind.wrap .i64 k)&&Nat.blt b.toNat lets.size then(bif decide (0<=IntKind.wrap .i64 k)&&Nat.blt b.toNat d.size then(bif B5 lets b.toNat != B5 d b.toNat then False else(bif decide (2 < Int.ofNat d.size)then(bif decide (0<=IntKind.wrap .i64 j)&&Nat.blt c.toNat lets.size then(bif decide (0<=IntKind.wrap .i64 j)&&Nat.blt c.toNat d.size then(bif B5 lets c.toNat != B5 d c.toNat then False else(bif decide (3 < Int.ofNat d.size)then False else False))else False)else False)else(bif decide e then l else g)))else False)else False)else(bif decide e then l else g)))else False)else False)else g)else g)else g))else(bif decide (57343 < r)then(bif decide p then(bif decide m then(bif decide (0<=IntKind.wrap .i64 a)&&Nat.blt f.toNat lets.size then(bif decide (0<=IntKind.wrap .i64 a)&&Nat.blt f.toNat d.size then(bif B5 lets f.toNat != B5 d f.toNat then(bif decide (0<=39)&&Nat.ble 39 lets.size&&decide (0<=IntKind.wrap .i64 i)&&Nat.ble n.toNat 39 then(bif decide (0<=IntKind.wrap .i64 a)&&Nat.blt f.toNat d.size then h/\g else False)else False)else(bif decide (1 < Int.ofNat d.size)then(bif decide (0<=IntKind.wrap .i64 k)&&Nat.blt b.toNat lets.size then(bif decide (0<=IntKind.wrap .i64 k)&&Nat.blt b.toNat d.size then(bif B5 lets b.toNat != B5 d b.toNat then False else(bif decide (2 < Int.ofNat d.size)then(bif decide (0<=IntKind.wrap .i64 j)&&Nat.blt c.toNat lets.size then(bif decide (0<=IntKind.wrap .i64 j)&&Nat.blt c.toNat d.size then(bif B5 lets c.toNat != B5 d c.toNat then False else(bif decide (3 < Int.ofNat d.size)then False else False))else False)else False)else(bif decide e then l else g)))else False)else False)else(bif decide e then l else g)))else False)else False)else g)else g)else g))))else(bif r==65533 then False else(bif decide (0<=r)then(bif decide (r < 55296)then(bif decide m then(bif decide (0<=IntKind.wrap .i64 a)&&Nat.blt f.toNat lets.size then(bif decide (0<=IntKind.wrap .i64 a)&&Nat.blt f.toNat d.size then(bif B5 lets f.toNat != B5 d f.toNat then(bif decide (0<=39)&&Nat.ble 39 lets.size&&decide (0<=IntKind.wrap .i64 i)&&Nat.ble n.toNat 39 then(bif decide (0<=IntKind.wrap .i64 a)&&Nat.blt f.toNat d.size then h/\g else False)else False)else(bif decide (1 < Int.ofNat d.size)then(bif decide (0<=IntKind.wrap .i64 k)&&Nat.blt b.toNat lets.size then(bif decide (0<=IntKind.wrap .i64 k)&&Nat.blt b.toNat d.size then(bif B5 lets b.toNat != B5 d b.toNat then False else(bif decide (2 < Int.ofNat d.size)then(bif decide (0<=IntKind.wrap .i64 j)&&Nat.blt c.toNat lets.size then(bif decide (0<=IntKind.wrap .i64 j)&&Nat.blt c.toNat d.size then(bif B5 lets c.toNat != B5 d c.toNat then False else(bif decide (3 < Int.ofNat d.size)then(bif decide (0<=IntKind.wrap .i64 o)&&Nat.blt q.toNat lets.size then False else False)else False))else False)else False)else(bif decide e then l else g)))else False)else False)else(bif decide e then l else g)))else False)else False)else g)else(bif decide (57343 < r)then(bif decide p then(bif decide m then(bif decide (0<=IntKind.wrap .i64 a)&&Nat.blt f.toNat lets.size then(bif decide (0<=IntKind.wrap .i64 a)&&Nat.blt f.toNat d.size then(bif B5 lets f.toNat != B5 d f.toNat then(bif decide (0<=39)&&Nat.ble 39 lets.size&&decide (0<=IntKind.wrap .i64 i)&&Nat.ble n.toNat 39 then(bif decide (0<=IntKind.wrap .i64 a)&&Nat.blt f.toNat d.size then h/\g else False)else False)else(bif decide (1 < Int.ofNat d.size)then(bif decide (0<=IntKind.wrap .i64 k)&&Nat.blt b.toNat lets.size then(bif decide (0<=IntKind.wrap .i64 k)&&Nat.blt b.toNat d.size then(bif B5 lets b.toNat != B5 d b.toNat then False else(bif decide (2 < Int.ofNat d.size)then(bif decide (0<=IntKind.wrap .i64 j)&&Nat.blt c.toNat lets.size then(bif decide (0<=IntKind.wrap .i64 j)&&Nat.blt c.toNat d.size then(bif B5 lets c.toNat != B5 d c.toNat then False else(bif decide (3 < Int.ofNat d.size)then False else False))else False)else False)else(bif decide e then l else g)))else False)else False)else(bif decide e then l else g)))else False)else False)else g)else g)else g))else(bif decide (57343 < r)then(bif decide p then(bif decide m then(bif decide (0<=IntKind.wrap .i64 a)&&Nat.blt f.toNat lets.size then(bif decide (0<=IntKind.wrap .i64 a)&&Nat.blt f.toNat d.size then(bif B5 lets f.toNat != B5 d f.toNat then(bif decide (0<=39)&&Nat.ble 39 lets.size&&decide (0<=IntKind.wrap .i64 i)&&Nat.ble n.toNat 39 then(bif decide (0<=IntKind.wrap .i64 a)&&Nat.blt f.toNat d.size then h/\g else False)else False)else(bif decide (1 < Int.ofNat d.size)then(bif decide (0<=IntKind.wrap .i64 k)&&Nat.blt b.toNat lets.size then(bif decide (0<=IntKind.wrap .i64 k)&&Nat.blt b.toNat d.size then(bif B5 lets b.toNat != B5 d b.toNat then False else(bif decide (2 < Int.ofNat d.size)then(bif decide (0<=IntKind.wrap .i64 j)&&Nat.blt c.toNat lets.size then(bif decide (0<=IntKind.wrap .i64 j)&&Nat.blt c.toNat d.size then(bif B5 lets c.toNat != B5 d c.toNat then False else(bif decide (3 < Int.ofNat d.size)then False else False))else False)else False)else(bif decide e then l else g)))else False)else False)else(bif decide e then l else g)))else False)else False)else g)else g)else g))))):=by kernel_rfl
theorem kf(Q:Bz):qU hY Dn Aj [] Q 3000 (st Aj [.string lets,.int .i32 65533] (hp []))=Q (.bool false) []:=by kernel_rfl
theorem Vc(c:UInt8):∀(l:List UInt8),c∉l->Go.Lib.indexByte l c= -1
 | [],_=>rfl
 | b::l,h=>by
  have h1:(b==c)=false:=by rw[AA7];exact fun e=>h (by simp[e])
  rw[Go.Lib.indexByte,h1,Vc c l (fun e=>h (ABT _ e))];rfl
theorem U9{n:Nat}(h1:128<=n)(h2:n < 256):128<=(UInt8.ofNat n).toNat:=by
 rw[UInt8.toNat_ofNat'];omega
theorem vp{r:Int}(h:128<=r):∃m,(Utf8.encode r).size=m/\2<=m/\m<=4/\128<=B5 (Utf8.encode r) (m - 1)/\B5 (Utf8.encode r) (m - 1) < 256:=by
 have hlt:∀m,B5 (Utf8.encode r) m < 256:=fun m=>by
  unfold B5;have:=((Utf8.encode r).data.toList.getD m 0).toNat_lt;omega
 suffices hh:∃m,(Utf8.encode r).size=m/\2<=m/\m<=4/\128<=B5 (Utf8.encode r) (m - 1) by
  obtain⟨m,a,b,c,d⟩:=hh;exact⟨m,a,b,c,d,hlt _⟩
 have hc:128<=(if Utf8.valid r then r.toNat else Utf8.runeError):=by
  split
  .omega
  .decide
 unfold Utf8.encode;simp only;generalize (if Utf8.valid r then r.toNat else Utf8.runeError)=c at hc;have b:∀(n:Nat),(128:Int)<=((UInt8.ofNat (0x80+n % 64)).toNat:Int):=fun n=>by
  have:=U9 (n:=0x80+n % 64) (by omega) (by omega);omega
 rw[AAW (by omega)];split
 .exact⟨2,rfl,by omega,by omega,b c⟩
 .split
  .exact⟨3,rfl,by omega,by omega,b c⟩
  .exact⟨4,rfl,by omega,by omega,b c⟩
theorem Z6:∀b∈lets.data.toList,b.toNat < 128:=by decide
theorem mJ(i:Nat):B5 lets i < 128:=by
 unfold B5;rw[AAX];cases h:lets.data.toList[i]? with
 | none=>decide
 | some b=>
  have:=Z6 b (AA1 h);show((b.toNat:Nat):Int) < 128;omega
theorem W4{c:Int}(h1:128<=c)(h2:c < 256)(a b:Nat):Po (lets.extract a b) c:=by
 refine⟨Vc _ _ fun hm=>?_⟩;have hm2:c.toNat.toUInt8∈lets.data.toList:=by
  have e:(lets.extract a b).data.toList=(lets.data.toList.drop a).take (b - a):=by
   rw[ADD,ADM,AC3]
  rw[e]at hm;exact ABl (ACD hm)
 have:=Z6 _ hm2;have e2:(c.toNat.toUInt8).toNat=c.toNat:=by
  show(UInt8.ofNat c.toNat).toNat=_;rw[UInt8.toNat_ofNat'];omega
 omega
theorem oC{a b:Int}(h:a≠b):(a != b)=true:=by
 rw[bne_iff_ne];exact h
theorem beq_false{a b:Int}(h:a≠b):(a==b)=false:=by rw[AA7];exact h
def Q1(r:Nat):Bool:=if r < 128 then yP r else false
theorem pB{r:Int}(h1:128<=r)(h2:r≠65533):qU hY j4 Aj [] (fun v _=>v= .bool false) 210 (st Aj [.string lets,.int .i32 r] (hp [])):=by
 rw[lK];(conv=>zeta)
 obtain⟨m,hm,hm1,hm2,hl,hl2⟩:=vp h1;have key:∀i,(B5 lets i != B5 (Utf8.encode r) (m - 1))=true:=fun i=>oC (by have:=mJ i;omega)
 rw[hm];rw[beq_false h2];have hq:(fun(v:Value) (_:J9)=>v= .bool false) (.bool false) []:=rfl;have hnb:∀a b,Po (lets.extract a b) (B5 (Utf8.encode r) (m - 1)):=fun a b=>W4 hl hl2 a b
 rcases(show m=2\/m=3\/m=4 by omega)with rfl | rfl | rfl
 .have w:IntKind.wrap .i64 (Int.ofNat 2 - 1)=1:=by decide
  rw[w]
  repeat' first
   | exact hq
   | omega
   | refine AU (fun _=>?_) (fun _=>?_)
   | refine And.intro (hnb _ _) ?_
   | refine AD (key _) ?_
   | refine AD (by decide) ?_
   | refine AK rfl ?_
 .have w:IntKind.wrap .i64 (Int.ofNat 3 - 1)=2:=by decide
  rw[w]
  repeat' first
   | exact hq
   | omega
   | refine AU (fun _=>?_) (fun _=>?_)
   | refine And.intro (hnb _ _) ?_
   | refine AD (key _) ?_
   | refine AD (by decide) ?_
   | refine AK rfl ?_
 .have w:IntKind.wrap .i64 (Int.ofNat 4 - 1)=3:=by decide
  rw[w]
  repeat' first
   | exact hq
   | omega
   | refine AU (fun _=>?_) (fun _=>?_)
   | refine And.intro (hnb _ _) ?_
   | refine AD (key _) ?_
   | refine AD (by decide) ?_
   | refine AK rfl ?_
def aB:Gk where
 ok:=fun args=>match args with
  | [.string s,.int .i32 (.ofNat _)]=>s=lets
  | _=>False
 v:=fun args=>match args with
  | [.string _,.int .i32 (.ofNat r)]=> .bool (Q1 r)
  | _=>Bo
structure fA(s:Ag):Prop where
 eq:s=lets
def rh:GN:=fun args H K=>match args with
 | [.string s,.int .i32 (.ofNat r)]=>fA s/\K (.bool (Q1 r)) H
 | _=>False
abbrev zq:List (FuncId × DL):=[(Aj,aB.F)]
def wL:Ctx:=BY Tryz.prog AG zq
def sw:Pf:=fun g=>bif Nat.beq g Aj then some rh else Dn g
def wD(s:Ag)(p:Nat):BU:=
 ⟨⟨CZ,JS [(0,.string s),(6,.pointer (some ⟨20,0,none⟩))],20,[.code (BN Tryz.prog CZ [1,0,1,0,0]),.inLoop (BN Tryz.prog CZ [1,0,1,0,0]),.inBlock 0,.code (BN Tryz.prog CZ [1,1])],[],false,.normal,none⟩,[],(hp []).alloc (.Cv s p)⟩
def xI:Stop:=⟨CZ,0,3,20,[],[0,6]⟩
theorem s8(s:Ag)(Q:Bz)(R:Cy):zH wL sw CZ [] xI Q R 200 (st CZ [.string s] (hp []))=(
 (R (wD s 0))):=by kernel_rfl
theorem rj(s:Ag)(p:Nat)(Q:Bz)(R:Cy):zH wL sw CZ [] xI Q R 200 (wD s p)=(
 (bif Nat.blt p s.size then(fA { data:=#[45,46,48,49,50,51,52,53,54,55,56,57,95,97,98,99,100,101,102,103,104,105,106,107,108,109,110,111,112,113,114,115,116,117,118,119,120,121,122] })/\(bif Q1 (Utf8.decode s p).1 then(R (wD s (p+(Utf8.decode s p).2)))else(Q (int 2) []))else(bif ByteArray.toList s==ByteArray.toList { data:=#[] } then(Q (int 2) [])else(bif decide (Int.ofNat s.size > 32)then(Q (int 12) [])else(Q (int 0) []))))):=by kernel_rfl
theorem je:Hm hY j4:=by
 refine aC (fun args H K h=>?_) (By _);unfold Wy at h;split at h
 .rename_i s c;have hX:hY.Hp EO=some W6:=rfl;unfold B3;simp only[hX];unfold W6 kj;refine⟨_,_,rfl,?_⟩;rw[h.1.no];exact h.2
 .exact h.elim
theorem cQ(r:Nat):Aa hY 20 Aj (fun v _=>v= .bool (Q1 r)) (st Aj [.string lets,.int .i32 (Int.ofNat r)] (hp [])):=by
 rcases AAt r 128 with h | h
 .have e:=List.map_inj_left.1 (gV fun v _=>v= .bool (yP r)) r (List.mem_range.2 h);have hv:qU hY Dn Aj [] (fun v _=>v= .bool (yP r)) 600 (st Aj [.string lets,.int .i32 (Int.ofNat r)] (hp [])):=by rw[e]
  have ho:Q1 r=yP r:=by unfold Q1;rw[AAZ h]
  rw[ho];exact(YL (By hY) 600 _ hv).Td
 .have ho:Q1 r=false:=by unfold Q1;rw[AAW (by omega)]
  rw[ho]
  by_cases h2:r=65533
  .subst h2;have hv:qU hY Dn Aj [] (fun v _=>v= .bool false) 3000 (st Aj [.string lets,.int .i32 65533] (hp [])):=by rw[kf]
   exact(YL (By hY) 3000 _ hv).Td
  .exact(YL je 210 _ (pB (r:=Int.ofNat r) (by show(128:Int)<=(r:Int);omega) (fun e=>h2 (by have e:(r:Int)=65533:=e;omega)))).Td
theorem fI(hfs:CQ Tryz.prog AG u4):CH Tryz.prog AG Aj aB.F:=by
 refine Pu (by kernel_rfl) fun args h=>?_
 unfold aB at h;simp only at h;split at h
 .rename_i s r;subst h;exact⟨rfl,VC (by kernel_rfl),rfl,_,hfs,cQ r⟩
 .exact h.elim
theorem UC:Hm wL sw:=by
 refine aC (fun args H K h=>?_) (By _);unfold rh at h;split at h
 .exact Gk.yS (q:=aB) (X:=wL) (f:=Aj) rfl _ H K ⟨h.1.eq,h.2⟩
 .exact h.elim
theorem X6(s:Ag)(i:Nat):0 < (Utf8.decode s i).2:=by
 unfold Utf8.decode;simp only
 repeat' split
 all_goals exact ADE _
def mF:Nat->Ag->Nat->Bool
 | 0,_,_=>true
 | n+1,s,p=>bif Nat.blt p s.size then(bif Q1 (Utf8.decode s p).1 then mF n s (p+(Utf8.decode s p).2)else false)else true
def OV(s:Ag):Int:=bif ByteArray.toList s==ByteArray.toList { data:=#[] } then 2 else bif decide (Int.ofNat s.size > 32)then 12 else 0
def KO(s:Ag):Int:=bif mF s.size s 0 then OV s else 2
theorem oh(s:Ag):∀(n p:Nat),s.size - p<=n->Aa wL 20 CZ (fun v _=>v= .int .i64 (bif mF n s p then OV s else 2)) (wD s p):=by
 intro n;induction n with
 | zero=>
  intro p hp;refine Xn UC (ids:=[]) (S:=xI) (by kernel_rfl) (Q:=fun v _=>v= .int .i64 (OV s)) (R:=fun _=>False) (fun v H h=>h) (fun c h=>h.elim) 200 _ ?_;rw[rj];have hb:Nat.blt p s.size=false:=by
   cases h:Nat.blt p s.size
   .rfl
   .have:p < s.size:=VC h;omega
  rw[hb];unfold OV;cases (ByteArray.toList s==ByteArray.toList { data:=#[] })<;>cases decide (Int.ofNat s.size > 32)<;>rfl
 | succ n ih=>
  intro p hp;refine Xn UC (ids:=[]) (S:=xI) (by kernel_rfl) (Q:=fun v _=>v= .int .i64 (bif mF (n+1) s p then OV s else 2)) (R:=fun c=>mF (n+1) s p=mF n s (p+(Utf8.decode s p).2)/\Nat.blt p s.size=true/\c=wD s (p+(Utf8.decode s p).2)) (fun v H h=>h) (fun c h=>?_) 200 _ ?_
  .rw[h.1,h.2.2];have hlt:p < s.size:=VC h.2.1;have:=X6 s p;exact ih _ (by omega)
  .rw[rj];have hk:mF (n+1) s p=bif Nat.blt p s.size then(bif Q1 (Utf8.decode s p).1 then mF n s (p+(Utf8.decode s p).2)else false)else true:=rfl
   rw[hk];unfold OV;cases Nat.blt p s.size
   .cases (ByteArray.toList s==ByteArray.toList { data:=#[] })<;>cases decide (Int.ofNat s.size > 32)<;>rfl
   .refine⟨⟨rfl⟩,?_⟩;cases Q1 (Utf8.decode s p).1
    .rfl
    .exact⟨rfl,rfl,rfl⟩
theorem pZ(s:Ag):Aa wL 20 CZ (fun v _=>v= .int .i64 (KO s)) (st CZ [.string s] (hp [])):=by
 refine Xn UC (ids:=[]) (S:=xI) (by kernel_rfl) (Q:=fun _ _=>False) (R:=fun c=>c=wD s 0) (fun v H h=>h.elim) (fun c h=>?_) 200 _ ?_
 .rw[h];exact oh s s.size 0 (by omega)
 .rw[s8]
def TB:Gk where
 ok:=fun args=>match args with
  | [.string _]=>True
  | _=>False
 v:=fun args=>match args with
  | [.string s]=> .int .i64 (KO s)
  | _=>Bo
theorem gQ(hfs:CQ Tryz.prog AG u4):CH Tryz.prog AG CZ TB.F:=by
 refine Pu (by kernel_rfl) fun args h=>?_
 unfold TB at h;simp only at h;split at h
 .rename_i s;exact⟨rfl,VC (by kernel_rfl),rfl,_,.cons (fI hfs) (CQ.nil _ _),pZ s⟩
 .exact h.elim
theorem il{P:Program}{f:FuncId}(h:(entry P f).isSome=true):∃n c,entry P f=some (n,c):=by
 cases he:entry P f with
 | none=>rw[he]at h;cases h
 | some p=>exact⟨p.1,p.2,rfl⟩
theorem mc:CH Tryz.prog AG EO W6:=gm Tryz.fl (by kernel_rfl) (il (by kernel_rfl))
theorem Vk:CH Tryz.prog AG CZ TB.F:=gQ (.cons mc (CQ.nil _ _))
def jb:GN:=fun args H K=>match args with
 | [.string s]=>K (.int .i64 (KO s)) H
 | _=>False
def gk:Gc:=(CZ,TB.F,jb)
theorem aL:SR TB.F jb:=fun X f hX args H K h=>by
 unfold jb at h;split at h
 .exact Gk.yS (q:=TB) (X:=X) (f:=f) hX _ H K ⟨trivial,h⟩
 .exact h.elim
def zF:List Gc:=[gk,EX EC [] tj]
theorem wQ:Ct zF:= .other Vk aL (.cons oo .nil)
abbrev XRa:Ctx:=BY Tryz.prog AG (C8 zF)
def Np(k q:Int)(a b:Ag):Value:= .agg ⟨[int k,.int .i64 q,.string a,.string b]⟩
theorem ui(k q:Int)(a b:Ag)(Q:Bz):Bu XRa (As zF) [] DS [] 20 Q 600 (st DS [Np k q a b] (hp []))=(
 let e:=q > 1099511627776;let d:Prop:=Q (int 0) [];let c:Prop:=Q (int 2) [];(bif k != 1 then(bif k != 2 then c else(bif decide (q < 1)then c else(bif decide e then c else(bif KO a != 0 then c else(bif Mc b 512 != 0 then c else(bif k==2 then(bif !ByteArray.toList b==ByteArray.toList { data:=#[] } then c else d)else d))))))else(bif decide (q < 1)then c else(bif decide e then c else(bif KO a != 0 then c else(bif Mc b 512 != 0 then c else(bif k==2 then(bif !ByteArray.toList b==ByteArray.toList { data:=#[] } then c else d)else d))))))):=by kernel_rfl
def N9(b:Ag):Bool:=ByteArray.toList b==ByteArray.toList { data:=#[] }
def Di(k q:Int)(a b:Ag):Bool:=(k==1||(k==2&&N9 b))&& !decide (q < 1)&& !decide (q > 1099511627776)&&(KO a==0)&&(Mc b 512==0)
def AAH(args:AL)(objs:Ay):GT:=match args,objs with
 | [.slice (some ⟨20,0,some j⟩) n 18446744073709551616],[.vec [.int .u8] l _]=> .ask (j+n<=l.length/\n < 100000) (.test (decide (Int.ofNat n < 16)) (.ret ⟨.tuple ⟨[fg hdZ,int 14]⟩,[],[]⟩)
  (.test (xf (wT l j)) (.ret ⟨.tuple ⟨[fg (wT l j),int 0]⟩,[],[]⟩) (.ret ⟨.tuple ⟨[fg hdZ,int 8]⟩,[],[]⟩)))
 | _,_=> .fail
def AAC(f:FuncId)(muts:List Bool)(G G':AL->Ay->GT):Gc:=(f,Ab AG 20 muts G,De AG 20 muts G')
theorem Ct.ND{f:FuncId}{muts:List Bool}{G G':AL->Ay->GT}{l:List Gc}(h:CH Tryz.prog AG f (Ab AG 20 muts G))(hG:∀a o x,(G' a o).run=some x->(G a o).run=some x)(t:Ct l):Ct (AAC f muts G G'::l):=by
 refine .other h (fun X g hX args H K hk=>?_) t;have hctx:(⟨X.P,X.laid,fun _=>some (Ab AG 20 muts G'),X.BP⟩:Ctx).Hp g=some (Ab AG 20 muts G'):=rfl;obtain⟨v,H',h1,h2⟩:=Gh hctx hk;refine⟨v,H',?_,h2⟩;unfold B3 at h1 ⊢;simp only[hX]at h1 ⊢;exact LB hG h1
def nz(args:AL)(objs:Ay):GT:=match args,objs with
 | [.agg ⟨[.int .i64 k,.int .i64 q,.string a,.string b]⟩],[]=> .test (Di k q a b) (.ret ⟨int 0,[],[]⟩) (.ret ⟨int 2,[],[]⟩)
 | _,_=> .fail
def zO:List Gc:=[EX DS [] nz]
abbrev XRb:Ctx:=BY Tryz.prog AG (C8 zO)
theorem o8(k q:Int)(a b:Ag)(s o:Int)(Q:Bz):Bu XRb (As zO) [] Ca [] 20 Q 600 (st Ca [Np k q a b,int s,int o] (hp []))=(
 let d:=int (IntKind.wrap .i64 (IntKind.wrap .i64 (16+Int.ofNat a.size)+Int.ofNat b.size));let c:Prop:=Q (.tuple ⟨[(.agg ⟨[(int 0),(.string ({ data:=#[] })),(.bool false),(int 0),(int 0),(int 0)]⟩),(int 2)]⟩) [];(bif Di k q a b then(bif decide (s < 0)then c else(bif decide (s>=32)then c else(bif decide (o < 0)then c else(bif decide (o > 8192)then c else(bif k==2 then(Q (.tuple ⟨[(.agg ⟨[(int q),(.string a),(.bool true),(int s),(int o),d]⟩),(int 0)]⟩) [])else(Q (.tuple ⟨[(.agg ⟨[(int q),(.string a),(.bool false),(int s),(int o),d]⟩),(int 0)]⟩) []))))))else c)):=by kernel_rfl
def w0:List Gc:=[EX DS [] nz,EX Bf [] z8,EX GF [] pV]
abbrev XRc:Ctx:=BY Tryz.prog AG (C8 w0)
theorem aV(k q:Int)(a b:Ag)(Q:Bz):Bu XRc (As w0) [] CG [] 20 Q 900 (st CG [Np k q a b] (hp []))=(
 let l:Value:= .pointer (some ⟨20,3,none⟩);let g:=Int.ofNat b.size;let f:=Int.ofNat a.size;let j:=List.take 16 (List.drop 0 (R5 0 k f g q))++Ci a;let d:=Int.ofNat (16+a.size+b.size);let i:=d.toNat - 16;let e:=Int.ofNat (16+i);let c:=List.take (16+a.size) (List.drop 0 j)++Ci b;let h:=HX 0 (List.take (d.toNat - 4) (List.drop 4 c));(bif Di k q a b then(YF 0 k f g q)/\(bif true&&Nat.ble 16 (R5 0 k f g q).length&&Bn 1 (16+a.size)then(((.string b):Value)=(.string b))/\((l:Value)=l)/\(bif true&&Nat.ble (0+(16+a.size)) j.length&&Bn 1 (16+a.size+b.size)then(bif decide (0<=Int.ofNat (16+a.size+b.size))&&Nat.ble d.toNat (16+a.size+b.size)&&decide (0<=4)&&Nat.ble 4 d.toNat then(4+(d.toNat - 4)<=c.length/\d.toNat - 4 < 1000000)/\(YF h k f g q)/\(bif decide (0<=Int.ofNat (16+a.size+b.size))&&Nat.ble d.toNat (16+a.size+b.size)&&decide (0<=16)&&Nat.ble 16 d.toNat then(bif Nat.ble (16+i) c.length&&Nat.ble 16 (R5 h k f g q).length&&Bn 1 (16+i)then(bif decide (0<=Int.ofNat (16+i))&&Nat.ble e.toNat (16+i)&&Nat.blt e.toNat AT&&decide (0<=Int.ofNat (16+i))&&Nat.ble e.toNat e.toNat&&decide (0<=0)&&Nat.ble 0 e.toNat then(Q (.tuple ⟨[(.slice (some ⟨26,0,(some 0)⟩) (e.toNat - 0) 18446744073709551616),(int 0)]⟩) [some (.vec ([SK.int IntKind.u8]) (List.take 16 (List.drop 0 (R5 h k f g q))++List.take i (List.drop 16 c)) false)])else False)else False)else False)else False)else False)else False)else(Q (.tuple ⟨[(.slice none 0 0),(int 2)]⟩) []))):=by kernel_rfl
theorem mg(k q:Int)(a b:Ag):Bu XRa (As zF) [] DS [] 20 (fun v _=>v=int (bif Di k q a b then 0 else 2)) 600 (st DS [Np k q a b] (hp [])):=by
 rw[ui];(conv=>zeta)
 unfold Di N9;have e1:(k != 1)= !(k==1):=rfl;have e2:(k != 2)= !(k==2):=rfl;have e3:(KO a != 0)= !(KO a==0):=rfl;have e4:(Mc b 512 != 0)= !(Mc b 512==0):=rfl;rw[e1,e2,e3,e4];have hx:(k==1)=true->(k==2)=false:=fun h=>by rw[eq_of_beq h];rfl
 generalize (ByteArray.toList b==ByteArray.toList { data:=#[] })=s;generalize decide (q < 1)=q1;generalize decide (q > 1099511627776)=q2;generalize (KO a==0)=c1;generalize (Mc b 512==0)=c2;generalize hk1:(k==1)=k1 at hx;generalize hk2:(k==2)=k2 at hx;cases k1
 .cases k2<;>cases q1<;>cases q2<;>cases c1<;>cases c2<;>cases s<;>exact rfl
 .have:=hx rfl;subst this;cases q1<;>cases q2<;>cases c1<;>cases c2<;>cases s<;>exact rfl
theorem Zn:CH Tryz.prog AG DS (Ab AG 20 [] nz):=by
 refine Ar wQ.all (by kernel_rfl) (n:=A5 DS) (by kernel_rfl) (by kernel_rfl) fun argsc objs x hx hro=>?_
 clear hro;unfold nz at hx;split at hx
 .rename_i k q a b;have hv:=mg k q a b;refine⟨?_,?_⟩
  .exact VC (by kernel_rfl)
  .cases hr:Di k q a b
   all_goals
    rw[hr]at hx hv;cases hx
    exact AZ.mono (Aa.FG (Av wQ.pf (by kernel_rfl) hv)) fun v H e=>by have e:v=_:=e;subst e;exact Cp rfl
 .cases hx
theorem toList_nil{s:Ag}(h:ByteArray.toList s=ByteArray.toList { data:=#[] }):s.size=0:=by
 have e:s.data.toList=[]:=by
  have:=congrArg List.length h;rw[Go.ByteArray.toList_eq]at h;rw[Go.ByteArray.toList_eq]at h;exact h
 have:s.data.size=0:=by rw[<-AAy,e];rfl
 exact this
structure wy(k q:Int)(a b:Ag):Prop where
 hk:k=1\/(k=2/\b.size=0)
 q0:1<=q
 q1:q<=1099511627776
 a0:1<=a.size
 a1:a.size<=32
 b1:b.size<=512
theorem TJ{a:Ag}(h:KO a=0):1<=a.size/\a.size<=32:=by
 unfold KO at h;cases hr:mF a.size a 0
 .rw[hr]at h;cases h
 .rw[hr]at h;have h:OV a=0:=h;unfold OV at h;cases h1:(ByteArray.toList a==ByteArray.toList { data:=#[] })
  .rw[h1]at h
   by_cases h2:Int.ofNat a.size > 32
   .rw[AAY h2]at h;cases h
   .have h2:¬(a.size:Int) > 32:=h2;refine⟨?_,by omega⟩;rcases AB4 a.size with h0 | h0
    .exfalso;have:ByteArray.toList a=ByteArray.toList { data:=#[] }:=by
      rw[Go.ByteArray.toList_eq,Go.ByteArray.toList_eq];have:a.data.toList=[]:=AAp (by rw[AAy];exact h0);rw[this]
     rw[this,ACB]at h1;cases h1
    .exact h0
  .rw[h1]at h;cases h
theorem cm{b:Ag}(h:Mc b 512=0):b.size<=512:=by
 unfold Mc at h;have e:(decide ((512:Int) < 0)||decide ((512:Int) > 512))=false:=rfl;rw[e]at h
 by_cases h2:Int.ofNat b.size > 512
 .rw[AAY h2]at h;cases h
 .have h2:¬(b.size:Int) > 512:=h2;omega
theorem LJ{k q:Int}{a b:Ag}(h:Di k q a b=true):wy k q a b:=by
 unfold Di at h;simp only[AAQ,ABa,ACl,ABd,ABE]at h;obtain⟨⟨⟨⟨hk,h1⟩,h2⟩,h3⟩,h4⟩:=h;obtain⟨a0,a1⟩:=TJ h3;refine⟨?_,by omega,by omega,a0,a1,cm h4⟩;rcases hk with hk | ⟨hk,hs⟩
 .exact .inl hk
 .exact .inr ⟨hk,toList_nil (eq_of_beq hs)⟩
def Ce(a b:Ag):Nat:=16+a.size+b.size
def Gw(q:Int)(a:Ag)(d:Bool)(s o z:Int):Value:= .agg ⟨[.int .i64 q,.string a,.bool d,int s,int o,int z]⟩
def xu:Value:=Gw 0 { data:=#[] } false 0 0 0
def Qi(k q:Int)(a b:Ag)(s o:Int):Bool:=Di k q a b&& !decide (s < 0)&& !decide (s>=32)&& !decide (o < 0)&& !decide (o > 8192)
def VE(args:AL)(objs:Ay):GT:=match args,objs with
 | [.agg ⟨[.int .i64 k,.int .i64 q,.string a,.string b]⟩,.int .i64 s,.int .i64 o],[]=> .test (Qi k q a b s o) (.ret ⟨.tuple ⟨[Gw q a (k==2) s o (Ce a b),int 0]⟩,[],[]⟩) (.ret ⟨.tuple ⟨[xu,int 2]⟩,[],[]⟩)
 | _,_=> .fail
theorem ni{a b:Ag}(ha:a.size<=32)(hb:b.size<=512):IntKind.wrap .i64 (IntKind.wrap .i64 (16+Int.ofNat a.size)+Int.ofNat b.size)=(Ce a b:Nat):=by
 unfold Ce;show IntKind.wrap .i64 (IntKind.wrap .i64 (16+(a.size:Int))+(b.size:Int))=_;rw[wrap64 (x:=16+(a.size:Int)) (by omega) (by omega),wrap64 (by omega) (by omega)];omega
theorem wk:Ct zO:= .cons Zn .nil
theorem lh(k q:Int)(a b:Ag)(s o:Int):Bu XRb (As zO) [] Ca [] 20 (fun v _=>v=(bif Qi k q a b s o then .tuple ⟨[Gw q a (k==2) s o (Ce a b),int 0]⟩else .tuple ⟨[xu,int 2]⟩)) 600 (st Ca [Np k q a b,int s,int o] (hp [])):=by
 rw[o8];(conv=>zeta)
 unfold Qi;cases hr:Di k q a b
 .exact rfl
 .obtain⟨_,_,_,_,h1,h2⟩:=LJ hr;rw[ni h1 h2];cases decide (s < 0)<;>cases decide (s>=32)<;>cases decide (o < 0)<;>cases decide (o > 8192)<;>cases (k==2)<;>exact rfl
theorem fc:CH Tryz.prog AG Ca (Ab AG 20 [] VE):=by
 refine Ar wk.all (by kernel_rfl) (n:=A5 Ca) (by kernel_rfl) (by kernel_rfl) fun argsc objs x hx hro=>?_
 clear hro;unfold VE at hx;split at hx
 .rename_i k q a b s o;have hv:=lh k q a b s o;refine⟨VC (by kernel_rfl),?_⟩;cases hr:Qi k q a b s o
  all_goals
   rw[hr]at hx hv;cases hx
   exact AZ.mono (Aa.FG (Av wk.pf (by kernel_rfl) hv)) fun v H e=>by have e:v=_:=e;subst e;exact Cp rfl
 .cases hx
def jB(k q:Int)(a b:Ag):Au:=(R5 0 k a.size b.size q).drop 4++(Ci a++Ci b)
def Kj(k q:Int)(a b:Ag):Int:=HX 0 (jB k q a b)
def M4(k q:Int)(a b:Ag):Au:=R5 (Kj k q a b) k a.size b.size q++(Ci a++Ci b)
theorem Mt(s k a b q:Int):(R5 s k a b q).length=16:=by
 unfold R5;simp only[AAf,Hk]
theorem QB(k q:Int)(a b:Ag):(M4 k q a b).length=Ce a b:=by
 unfold M4 Ce;simp only[AAf,Mt,FR];omega
theorem cd(n:Int):0<=IntKind.u32.wrap n/\IntKind.u32.wrap n < 4294967296:=by simp[IntKind.wrap,IntKind.bits,IntKind.signed];omega
theorem ah(x:Int)(l:Au):0<=HX x l/\HX x l < 4294967296:=by
 unfold HX LY qn;exact cd _
theorem gW{k q:Int}{a b:Ag}(h:wy k q a b){s:Int}(s0:0<=s)(s1:s < 4294967296):YF s k (Int.ofNat a.size) (Int.ofNat b.size) q:=by
 obtain⟨hk,q0,q1,a0,a1,b1⟩:=h;refine⟨s0,s1,?_,?_,?_,?_,?_,q0,q1⟩
 .rcases hk with hk | ⟨hk,hb⟩
  .exact .inl hk
  .exact .inr ⟨hk,by rw[hb];rfl⟩
 all_goals (first | (show(1:Int)<=(a.size:Int);omega) | (show(a.size:Int)<=32;omega) | (show(0:Int)<=(b.size:Int);omega) | (show(b.size:Int)<=512;omega))
def Sb(args:AL)(objs:Ay):GT:=match args,objs with
 | [.agg ⟨[.int .i64 k,.int .i64 q,.string a,.string b]⟩],[]=> .test (Di k q a b) (.ret ⟨.tuple ⟨[Aq 20 (Ce a b),int 0]⟩,[],[.vec kB (M4 k q a b) false]⟩) (.ret ⟨.tuple ⟨[.slice none 0 0,int 2]⟩,[],[]⟩)
 | _,_=> .fail
theorem ub:Ct w0:= .cons Zn (.cons nE (.cons Z1 .nil))
theorem iw{k q:Int}{a b:Ag}(hr:Di k q a b=true):Bu XRc (As w0) [] CG [] 20 (fun v os=>v= .tuple ⟨[Aq 26 (Ce a b),int 0]⟩/\os=[some (.vec kB (M4 k q a b) false)]) 900 (st CG [Np k q a b] (hp [])):=by
 have hF:=LJ hr;have a0:=hF.a0;have a1:=hF.a1;have b1:=hF.b1;rw[aV];(conv=>zeta)
 have hd0:YF 0 k (Int.ofNat a.size) (Int.ofNat b.size) q:=gW hF (by decide) (by decide);generalize hH:R5 0 k (Int.ofNat a.size) (Int.ofNat b.size) q=H0;have hl:H0.length=16:=by rw[<-hH,Mt]
 have e1:List.take 16 (List.drop 0 H0)=H0:=by rw[AA5,AAc (by omega)]
 have e2:List.take (16+a.size) (List.drop 0 (H0++Ci a))=H0++Ci a:=by rw[AA5,AAc (by rw[AAf,FR];omega)]
 rw[e1,e2];have e3:Int.toNat (Int.ofNat (16+a.size+b.size))=16+a.size+b.size:=rfl;rw[e3];have hall:(H0++Ci a++Ci b).length=16+a.size+b.size:=by simp only[AAf,FR,hl]
 have htl:List.take (16+a.size+b.size - 4) (List.drop 4 (H0++Ci a++Ci b))=jB k q a b:=by
  rw[AAc (by rw[AAo,hall];omega),AA2,AB0 (by omega),<-hH];rfl
 rw[htl];have hsum:HX 0 (jB k q a b)=Kj k q a b:=rfl;rw[hsum];obtain⟨s0,s1⟩:0<=Kj k q a b/\Kj k q a b < 4294967296:=ah _ _;have hd1:YF (Kj k q a b) k (Int.ofNat a.size) (Int.ofNat b.size) q:=gW hF s0 s1;have hl2:(R5 (Kj k q a b) k (Int.ofNat a.size) (Int.ofNat b.size) q).length=16:=Mt ..;have hB:R5 (Kj k q a b) k (Int.ofNat a.size) (Int.ofNat b.size) q++(Ci a++Ci b)=M4 k q a b:=rfl;generalize R5 (Kj k q a b) k (Int.ofNat a.size) (Int.ofNat b.size) q=H1 at hl2 hB;have e4:List.take 16 (List.drop 0 H1)=H1:=by rw[AA5,AAc (by omega)]
 have e5:List.take (16+a.size+b.size - 16) (List.drop 16 (H0++Ci a++Ci b))=Ci a++Ci b:=by
  rw[AAc (by rw[AAo,hall];omega),AA2,AB0 (by omega),ABp (by omega),ABC]
 rw[e4,e5,hB];have e6:16+(16+a.size+b.size - 16)=Ce a b:=by unfold Ce;omega
 rw[e6];have e7:Int.toNat (Int.ofNat (Ce a b))=Ce a b:=rfl;rw[e7,ADF];have hz:Ce a b=16+a.size+b.size:=rfl;have nb:∀{x y:Nat},x<=y->Nat.ble x y=true:=fun h=>AAS h
 have cap:Nat.blt (Ce a b) AT=true:=by rw[EA];exact AAS (by omega)
 refine AD hr ⟨hd0,AD ?_ ⟨rfl,rfl,AD ?_ (AD ?_ ⟨⟨by rw[hall];omega,by omega⟩,hd1,AD ?_ (AD ?_ (AD ?_ ⟨rfl,rfl⟩))⟩)⟩⟩
 .rw[hl,Ly (by omega)];rfl
 .rw[AAf,hl,FR,AAj,Ly (by omega),nb (AAT _)];rfl
 .rw[nb (AAT _),nb (show 4<=16+a.size+b.size by omega),show decide (0<=Int.ofNat (16+a.size+b.size))=true from AAY (ABe _)];rfl
 .rw[nb (AAT _),nb (show 16<=16+a.size+b.size by omega),show decide (0<=Int.ofNat (16+a.size+b.size))=true from AAY (ABe _)];rfl
 .rw[hall,hl2,Ly (by omega),nb (show Ce a b<=16+a.size+b.size by omega)];rfl
 .rw[cap,nb (AAT _),nb (AA4 _),show decide (0<=Int.ofNat (Ce a b))=true from AAY (ABe _)];rfl
theorem Vy:CH Tryz.prog AG CG (Ab AG 20 [] Sb):=by
 refine Ar ub.all (by kernel_rfl) (n:=A5 CG) (by kernel_rfl) (by kernel_rfl) fun argsc objs x hx hro=>?_
 clear hro;unfold Sb at hx;split at hx
 .rename_i k q a b;refine⟨VC (by kernel_rfl),?_⟩;cases hr:Di k q a b
  .rw[hr]at hx;cases hx
   have hv:Bu XRc (As w0) [] CG [] 20 (fun v _=>v= .tuple ⟨[.slice none 0 0,int 2]⟩) 900 (st CG [Np k q a b] (hp [])):=by
    rw[aV];exact AK hr rfl
   exact AZ.mono (Aa.FG (Av ub.pf (by kernel_rfl) hv)) fun v H e=>by have e:v=_:=e;subst e;exact Cp rfl
  .rw[hr]at hx;cases hx
   refine AZ.mono (Aa.FG (Av ub.pf (by kernel_rfl) (iw hr))) fun v H ⟨e,hos⟩=>?_
   subst e;have hos:[H.get 26]=_:=hos;simp only[AAd,ABF]at hos;exact KX (by decide) hos
 .cases hx
end Go.AB
namespace Go.AB
open Go.Proofs
end Go.AB
namespace Go.AB
open Go.Proofs
theorem bM{n:Nat}(h:n < 100000):Bn 56 n=true:=by
 unfold Bn;rw[AAS (by omega),AAS (by omega)];rfl
theorem sf(a b:Int)(Q:Bz):Bu X0 Dn [] FC [] 20 Q 100 (st FC [int a,int b] (hp []))=(
 (bif a != a then(bif b != b then(Q (int 0) [])else(Q (int (-1)) []))else(bif b != b then(Q (int 1) [])else(bif decide (a < b)then(Q (int (-1)) [])else(bif decide (a > b)then(Q (int 1) [])else(Q (int 0) [])))))):=by kernel_rfl
theorem ml(a b:Int)(Q:Bz):Bu X0 Dn [] EP [] 20 Q 100 (st EP [int a,int b] (hp []))=(
 (bif a != a then(bif b != b then(Q (int 0) [])else(Q (int (-1)) []))else(bif b != b then(Q (int 1) [])else(bif decide (a < b)then(Q (int (-1)) [])else(bif decide (a > b)then(Q (int 1) [])else(Q (int 0) [])))))):=by kernel_rfl
def LU(a b:Int):Int:=bif decide (a < b)then -1 else bif decide (a > b)then 1 else 0
def cp(args:AL)(objs:Ay):GT:=match args,objs with
 | [.int .i64 a,.int .i64 b],[]=> .ret ⟨int (LU a b),[],[]⟩
 | _,_=> .fail
def tQ:List Gc:=[EX FC [] cp,EX EP [] cp]
abbrev wG:Ctx:=BY Tryz.prog AG (C8 tQ)
def mC(l:List (EK.C Ak))(n:Nat)(o i j:Int):BU:=
 ⟨⟨AM,JS [(0,Aq 20 n),(1,int o),(2,.func (.func CC) ⟨[]⟩ ⟨[]⟩),(8,int n),(9,int i),(10,int j)],A5 AM,[.code (BN Tryz.prog AM [1,1,1,0,0,0]),.inLoop (BN Tryz.prog AM [1,1,1,0,0,0]),.inBlock 0,.code (BN Tryz.prog AM [1,1,1,1])],[],false,.normal,none⟩,[],hp [.vec Ak l true]⟩
def wE:Stop:=⟨AM,0,3,21,[20],[0,1,2,8,9,10]⟩
theorem sL(l:List (EK.C Ak))(n:Nat)(o:Int)(Q:Bz)(R:Cy):Pj wG (As tQ) [] AM [] wE [] Q R 200 (st AM [Aq 20 n,int o,.func (.func CC) ⟨[]⟩ ⟨[]⟩] (hp [.vec Ak l true]))=(
 (R (mC l n o 0 (Int.ofNat n)))):=by kernel_rfl
theorem xg(l:List (EK.C Ak))(n:Nat)(o i j:Int)(Q:Bz)(R:Cy):Pj wG (As tQ) [] AM [] wE [] Q R 200 (mC l n o i j)=(
 let c:Prop:=Q (.tuple ⟨[(int i),(.bool false)]⟩) [];let a:=Int.fdiv (IntKind.wrap IntKind.u64 (IntKind.wrap .i64 (i+j))) (2 ^ min 1 (IntKind.bits IntKind.u64));let b:=IntKind.wrap .i64 a;(bif decide (i < j)then(bif decide (0<=IntKind.wrap .i64 a)&&Nat.blt b.toNat n then(bif Nat.blt (0+b.toNat) l.length then(bif decide (LU (List.getD l (0+b.toNat) (EK.BJ Ak)).2.2.2.2.1 o < 0)then(R (mC l n o (IntKind.wrap .i64 (IntKind.wrap .i64 a+1)) j))else(R (mC l n o i b)))else False)else False)else(bif decide (i < (n:Int))then(bif decide (0<=i)&&Nat.blt i.toNat n then(bif Nat.blt (0+i.toNat) l.length then(bif LU (List.getD l (0+i.toNat) (EK.BJ Ak)).2.2.2.2.1 o==0 then(Q (.tuple ⟨[(int i),(.bool true)]⟩) [])else c)else False)else False)else c))):=by kernel_rfl
def Xx(q1 s1 q2 s2:Int):Int:=bif LU q2 q1 != 0 then LU q2 q1 else LU s1 s2
def sa(args:AL)(objs:Ay):GT:=match args,objs with
 | [.agg ⟨[.int .i64 q1,.string _,.bool _,.int .i64 s1,.int .i64 _,.int .i64 _]⟩,.agg ⟨[.int .i64 q2,.string _,.bool _,.int .i64 s2,.int .i64 _,.int .i64 _]⟩],[]=> .ret ⟨int (Xx q1 s1 q2 s2),[],[]⟩
 | _,_=> .fail
theorem vC(q1:Int)(a1:Ag)(d1:Bool)(s1 o1 z1 q2:Int)(a2:Ag)(d2:Bool)(s2 o2 z2:Int)(Q:Bz):Bu wG (As tQ) [] CF [] 20 Q 200 (st CF [Gw q1 a1 d1 s1 o1 z1,Gw q2 a2 d2 s2 o2 z2] (hp []))=(
 let b:Value:= .pointer (some ⟨20,3,none⟩);let a:Value:= .pointer (some ⟨21,3,none⟩);(((int s2):Value)=(int s2))/\((a:Value)=a)/\(((int s1):Value)=(int s1))/\((b:Value)=b)/\(bif LU q2 q1 != 0 then(Q (int (LU q2 q1)) [])else(bif LU s1 s2 != 0 then(Q (int (LU s1 s2)) [])else(Q (int 0) [])))):=by kernel_rfl
def wX:List Gc:=[EX CF [] sa]
abbrev zX:Ctx:=BY Tryz.prog AG (C8 wX)
def pF(l:List (EK.C Ak))(n:Nat)(q:Int)(a:Ag)(d:Bool)(s o z:Int)(i j:Int):BU:=
 ⟨⟨AS,JS [(0,Aq 20 n),(2,.func (.func CF) ⟨[]⟩ ⟨[]⟩),(4,Al 21),(8,int n),(9,int i),(10,int j)],A5 AS,[.code (BN Tryz.prog AS [1,1,1,0,0,0]),.inLoop (BN Tryz.prog AS [1,1,1,0,0,0]),.inBlock 0,.code (BN Tryz.prog AS [1,1,1,1])],[],false,.normal,none⟩,[],(hp [.vec Ak l true]).alloc (.cells [int q,.string a,.bool d,int s,int o,int z] 0 false)⟩
def v8:Stop:=⟨AS,0,3,21,[20],[0,2,4,8,9,10]⟩
theorem uW(l:List (EK.C Ak))(n:Nat)(q:Int)(a:Ag)(d:Bool)(s o z:Int)(Q:Bz)(R:Cy):Pj zX (As wX) [] AS [] v8 [] Q R 200 (st AS [Aq 20 n,Gw q a d s o z,.func (.func CF) ⟨[]⟩ ⟨[]⟩] (hp [.vec Ak l true]))=(
 (R (pF l n q a d s o z 0 (Int.ofNat n)))):=by kernel_rfl
theorem we(l:List (EK.C Ak))(n:Nat)(q:Int)(a:Ag)(d:Bool)(s o z:Int)(i j:Int)(Q:Bz)(R:Cy):Pj zX (As wX) [] AS [] v8 [] Q R 300 (pF l n q a d s o z i j)=(
 let m:=((int i):Value)=(int i);let k:Prop:=Q (.tuple ⟨[(int i),(.bool false)]⟩) [];let h:=((.bool false):Value)=(.bool false);let c:=List.getD l (0+i.toNat) (EK.BJ Ak);let f:=((.bool (Xx c.1 c.2.2.2.1 q s==0)):Value);let b:=Int.fdiv (IntKind.wrap IntKind.u64 (IntKind.wrap .i64 (i+j))) (2 ^ min 1 (IntKind.bits IntKind.u64));let e:=IntKind.wrap .i64 b;let g:=List.getD l (0+e.toNat) (EK.BJ Ak);(bif decide (i < j)then(bif decide (0<=IntKind.wrap .i64 b)&&Nat.blt e.toNat n then(bif Nat.blt (0+e.toNat) l.length then(bif decide (Xx g.1 g.2.2.2.1 q s < 0)then(R (pF l n q a d s o z (IntKind.wrap .i64 (IntKind.wrap .i64 b+1)) j))else(R (pF l n q a d s o z i e)))else False)else False)else(bif decide (i < (n:Int))then(bif decide (0<=i)&&Nat.blt i.toNat n then(bif Nat.blt (0+i.toNat) l.length then m/\(bif Xx c.1 c.2.2.2.1 q s==0 then(((.bool true):Value)=(.bool true))/\(f=(.bool true))/\(Q (.tuple ⟨[(int i),(.bool true)]⟩) [])else h/\(f=(.bool false))/\k)else False)else False)else m/\h/\k))):=by kernel_rfl
def Wa(p:Nat->Bool):Nat->Nat->Nat->Nat
 | 0,lo,_=>lo
 | f+1,lo,hi=>if lo < hi then(bif p ((lo+hi) / 2)then Wa p f ((lo+hi) / 2+1) hi else Wa p f lo ((lo+hi) / 2))else lo
theorem Jz(p:Nat->Bool):∀(f lo hi:Nat),lo<=hi->lo<=Wa p f lo hi/\Wa p f lo hi<=hi
 | 0,lo,hi,h=>⟨AAT _,h⟩
 | f+1,lo,hi,h=>by
  unfold Wa
  by_cases hl:lo < hi
  .rw[AAZ hl];cases p ((lo+hi) / 2)
   .have:=Jz p f lo ((lo+hi) / 2) (by omega);exact⟨this.1,by have:=this.2;simp only[AAR];omega⟩
   .have:=Jz p f ((lo+hi) / 2+1) hi (by omega);exact⟨by have:=this.1;simp only[AAO];omega,this.2⟩
  .rw[AAW hl];exact⟨AAT _,h⟩
theorem Rq(p:Nat->Bool)(r:Nat):∀(f lo hi:Nat),hi - lo<=f->lo<=r->r<=hi->(∀m,lo<=m->m < hi->(p m=true <-> m < r))->Wa p f lo hi=r
 | 0,lo,hi,hf,h1,h2,_=>by unfold Wa;omega
 | f+1,lo,hi,hf,h1,h2,hp=>by
  unfold Wa
  by_cases hl:lo < hi
  .rw[AAZ hl];have hm:=hp ((lo+hi) / 2) (by omega) (by omega);cases hc:p ((lo+hi) / 2)
   .have:¬(lo+hi) / 2 < r:=fun h=>by rw[hm.2 h]at hc;cases hc
    exact Rq p r f lo ((lo+hi) / 2) (by omega) h1 (by omega) fun m a b=>hp m a (by omega)
   .have:=hm.1 hc;exact Rq p r f ((lo+hi) / 2+1) hi (by omega) (by omega) h2 fun m a b=>hp m (by omega) b
  .rw[AAW hl];omega
def rf(i j:Int):Int:=IntKind.wrap .i64 (Int.fdiv (IntKind.wrap .u64 (IntKind.wrap .i64 (i+j))) (2 ^ min 1 (IntKind.bits .u64)))
def kg(n len:Nat)(i j:Int)(g:Nat->Int)(R:Int->Int->Prop)(E:Prop):Prop:=
 bif decide (i < j)then(bif decide (0<=rf i j)&&Nat.blt (rf i j).toNat n then(bif Nat.blt (0+(rf i j).toNat) len then(bif decide (g (0+(rf i j).toNat) < 0)then R (IntKind.wrap .i64 (rf i j+1)) j else R i (rf i j))else False)else False)else E
def uV(n len:Nat)(i:Int)(g:Nat->Int)(Q:Bool->Prop):Prop:=bif decide (i < (n:Int))then(bif decide (0<=i)&&Nat.blt i.toNat n then(bif Nat.blt (0+i.toNat) len then(bif g (0+i.toNat)==0 then Q true else Q false)else False)else False)else Q false
def uj(n len:Nat)(i:Int)(g:Nat->Int)(Q:Bool->Prop):Prop:=bif decide (i < (n:Int))then(bif decide (0<=i)&&Nat.blt i.toNat n then(bif Nat.blt (0+i.toNat) len then(int i=int i/\(bif g (0+i.toNat)==0 then(Value.bool true= .bool true/\Value.bool (g (0+i.toNat)==0)= .bool true/\Q true)else(Value.bool false= .bool false/\Value.bool (g (0+i.toNat)==0)= .bool false/\Q false)))else False)else False)else(int i=int i/\Value.bool false= .bool false/\Q false)
theorem uh{i j n:Nat}(h:i < j)(hj:j<=n)(hn:n < 1000000):rf (i:Int) (j:Int)=(((i+j) / 2:Nat):Int):=by
 unfold rf;rw[wrap64 (x:=(i:Int)+(j:Int)) (by omega) (by omega),Lo (by omega) (by omega)];have e:Int.fdiv ((i:Int)+(j:Int)) (2 ^ min 1 (IntKind.bits .u64))=(((i+j) / 2:Nat):Int):=by
  show Int.fdiv ((i:Int)+(j:Int)) 2=_;rw[AC2 _ (by decide)];omega
 rw[e,wrap64 (by omega) (by omega)]
def Zx(n:Nat)(g:Nat->Int)(r:Nat):Bool:=decide (r < n)&&(g r==0)
theorem bB{n len i j:Nat}{g:Nat->Int}{R:Int->Int->Prop}{E:Prop}(hl:n<=len)(hn:n < 1000000)(h:i < j)(hj:j<=n)(h1:decide (g ((i+j) / 2) < 0)=true->R (((i+j) / 2+1:Nat):Int) j)(h2:decide (g ((i+j) / 2) < 0)=false->R (i:Int) (((i+j) / 2:Nat):Int)):kg n len (i:Int) (j:Int) g R E:=by
 unfold kg;rw[uh h hj hn];have e:IntKind.wrap .i64 ((((i+j) / 2:Nat):Int)+1)=(((i+j) / 2+1:Nat):Int):=by rw[wrap64 (by omega) (by omega)];omega
 rw[e,AAa,AAj];refine AD (AAY (by omega)) (AD ?_ (AD (AAS (by omega)) (Cz h1 h2)));rw[AAY (show(0:Int)<=(((i+j) / 2:Nat):Int) by omega),show Nat.blt ((i+j) / 2) n=true from AAS (by omega)];rfl
theorem Vt{n len i j:Nat}{g:Nat->Int}{R:Int->Int->Prop}{E:Prop}(h:¬i < j)(hE:E):kg n len (i:Int) (j:Int) g R E:=AK (AAb (by omega)) hE
theorem oO{n len i:Nat}{g:Nat->Int}{Q:Bool->Prop}(hl:n<=len)(hQ:Q (Zx n g i)):uV n len (i:Int) g Q:=by
 unfold Zx at hQ;unfold uV;rw[AAa,AAj]
 by_cases h:i < n
 .rw[AAY h,AB5]at hQ;refine AD (AAY (by omega)) (AD ?_ (AD (AAS (by omega)) (Cz (fun c=>?_) fun c=>?_)))
  .rw[AAY (show(0:Int)<=(i:Int) by omega),show Nat.blt i n=true from AAS h];rfl
  .rw[c]at hQ;exact hQ
  .rw[c]at hQ;exact hQ
 .rw[AAb h]at hQ;exact AK (AAb (by omega)) hQ
theorem mQ{n len i:Nat}{g:Nat->Int}{Q:Bool->Prop}(hl:n<=len)(hQ:Q (Zx n g i)):uj n len (i:Int) g Q:=by
 unfold Zx at hQ;unfold uj;rw[AAa,AAj]
 by_cases h:i < n
 .rw[AAY h,AB5]at hQ;refine AD (AAY (by omega)) (AD ?_ (AD (AAS (by omega)) ⟨rfl,Cz (fun c=>⟨rfl,by rw[c],?_⟩) fun c=>⟨rfl,by rw[c],?_⟩⟩))
  .rw[AAY (show(0:Int)<=(i:Int) by omega),show Nat.blt i n=true from AAS h];rfl
  .rw[c]at hQ;exact hQ
  .rw[c]at hQ;exact hQ
 .rw[AAb h]at hQ;exact AK (AAb (by omega)) ⟨rfl,rfl,hQ⟩
theorem iq{X:Ctx}{f:FuncId}{n _len:Nat}{g:Nat->Int}{T:Int->Int->BU}{V:Nat->Value}(_hn:n < 1000000)(go:∀(i j:Nat),i < j->j<=n->∀c2:BU,(decide (g ((i+j) / 2) < 0)=true->c2=T (((i+j) / 2+1:Nat):Int) j)->(decide (g ((i+j) / 2) < 0)=false->c2=T (i:Int) (((i+j) / 2:Nat):Int))->∀Q:H5,Aa X 21 f Q c2->Aa X 21 f Q (T (i:Int) (j:Int)))(fin:∀i:Nat,i<=n->Aa X 21 f (fun v _=>v=V i) (T (i:Int) (i:Int))):
 ∀(q i j:Nat),j - i<=q->i<=j->j<=n->Aa X 21 f (fun v _=>v=V (Wa (fun m=>decide (g m < 0)) q i j)) (T (i:Int) (j:Int)):=by
 intro q;induction q with
 | zero=>
  intro i j hq hi hj;obtain rfl:i=j:=by omega
  exact fin i hj
 | succ q ih=>
  intro i j hq hi hj;unfold Wa
  by_cases h:i < j
  .rw[AAZ h];cases hc:decide (g ((i+j) / 2) < 0)
   .exact go i j h hj _ (fun e=>by rw[hc]at e;cases e) (fun _=>rfl) _ (ih i ((i+j) / 2) (by omega) (by omega) (by omega))
   .exact go i j h hj _ (fun _=>rfl) (fun e=>by rw[hc]at e;cases e) _ (ih ((i+j) / 2+1) j (by omega) (by omega) hj)
  .rw[AAW h];obtain rfl:i=j:=by omega
   exact fin i hj
theorem Ur{a:Int}:(a != a)=false:=by simp
theorem Sm{f:FuncId}(he:entry Tryz.prog f=some (A5 f,BN Tryz.prog f []))(h2:Nat.ble 2 (A5 f)=true)(hv:∀a b,Bu X0 Dn [] f [] 20 (fun v _=>v=int (LU a b)) 100 (st f [int a,int b] (hp []))):CH Tryz.prog AG f (Ab AG 20 [] cp):=by
 refine Ar (CQ.nil _ _) (by kernel_rfl) (n:=A5 f) he (by kernel_rfl) fun argsc objs x hx hro=>?_
 clear hro;unfold cp at hx;split at hx
 .rename_i a b;cases hx
  exact⟨VC h2,AZ.mono (Aa.FG (Av (By _) (by kernel_rfl) (hv a b))) fun v H e=>by have e:v=_:=e;subst e;exact Cp rfl⟩
 .cases hx
theorem oG:CH Tryz.prog AG FC (Ab AG 20 [] cp):=Sm (by kernel_rfl) (by kernel_rfl) fun a b=>by
 rw[sf,Ur,Ur];unfold LU;cases decide (a < b)<;>cases decide (a > b)<;>exact rfl
theorem jV:CH Tryz.prog AG EP (Ab AG 20 [] cp):=Sm (by kernel_rfl) (by kernel_rfl) fun a b=>by
 rw[ml,Ur,Ur];unfold LU;cases decide (a < b)<;>cases decide (a > b)<;>exact rfl
theorem de:Ct tQ:= .cons oG (.cons jV .nil)
theorem oE:CH Tryz.prog AG CF (Ab AG 20 [] sa):=by
 refine Ar de.all (by kernel_rfl) (n:=A5 CF) (by kernel_rfl) (by kernel_rfl) fun argsc objs x hx hro=>?_
 clear hro;unfold sa at hx;split at hx
 .rename_i q1 a1 d1 s1 o1 z1 q2 a2 d2 s2 o2 z2;cases hx
  have hv:Bu wG (As tQ) [] CF [] 20 (fun v _=>v=int (Xx q1 s1 q2 s2)) 200 (st CF [Gw q1 a1 d1 s1 o1 z1,Gw q2 a2 d2 s2 o2 z2] (hp [])):=by
   rw[vC];(conv=>zeta)
   unfold Xx;refine⟨rfl,rfl,rfl,rfl,Cz (fun c=>by rw[c];rfl) fun c=>?_⟩;rw[c];refine Cz (fun _=>rfl) fun c2=>?_
   have:LU s1 s2=0:=by
    rw[bne_eq_false_iff_eq]at c2;exact c2
   rw[this];rfl
  exact⟨VC (by kernel_rfl),AZ.mono (Aa.FG (Av de.pf (by kernel_rfl) hv)) fun v H e=>by have e:v=_:=e;subst e;exact Cp rfl⟩
 .cases hx
theorem oT:Ct wX:= .cons oE .nil
def D9(l:A6)(m:Nat):HO:=l.getD m (EK.BJ Ak)
def HB(l:A6)(o:Int)(m:Nat):Int:=LU (D9 l m).2.2.2.2.1 o
def FK(l:A6)(q s:Int)(m:Nat):Int:=Xx (D9 l m).1 (D9 l m).2.2.2.1 q s
theorem gF(l:List (EK.C Ak))(n:Nat)(o i j:Int)(Q:Bz)(R:Cy):Pj wG (As tQ) [] AM [] wE [] Q R 200 (mC l n o i j)=kg n l.length i j (HB l o) (fun i j=>R (mC l n o i j)) (uV n l.length i (HB l o) fun b=>Q (.tuple ⟨[int i,.bool b]⟩) []):=by rw[xg];rfl
theorem kF(l:List (EK.C Ak))(n:Nat)(q:Int)(a:Ag)(d:Bool)(s o z:Int)(i j:Int)(Q:Bz)(R:Cy):Pj zX (As wX) [] AS [] v8 [] Q R 300 (pF l n q a d s o z i j)=kg n l.length i j (FK l q s) (fun i j=>R (pF l n q a d s o z i j)) (uj n l.length i (FK l q s) fun b=>Q (.tuple ⟨[int i,.bool b]⟩) []):=by rw[we];rfl
def nW(n:Nat)(g:Nat->Int)(i:Nat):Value:= .tuple ⟨[int (i:Nat),.bool (Zx n g i)]⟩
def Ox(n:Nat)(g:Nat->Int):Nat:=Wa (fun m=>decide (g m < 0)) n 0 n
theorem oI{l:A6}{o:Int}(hn:l.length < 1000000):Aa wG 21 AM (fun v _=>v=nW l.length (HB l o) (Ox l.length (HB l o))) (mC l l.length o 0 l.length):=by
 refine iq (T:=fun i j=>mC l l.length o i j) (g:=HB l o) (n:=l.length) (_len:=l.length) (V:=nW l.length (HB l o)) hn (fun i j hij hj c2 e1 e2 Q hc=>?_) (fun i hi=>?_) l.length 0 l.length (by omega) (AA4 _) (AAT _)
 .refine DA de.pf [] [] wE [] (by kernel_rfl) (by decide) (fun _ _=>False) (fun c=>c=c2) (fun v H h=>h.elim) (fun c h=>by rw[h];exact hc) (n:=200) ?_;rw[gF];exact bB (AAT _) hn hij hj (fun c=>(e1 c).symm) fun c=>(e2 c).symm
 .refine DA de.pf [] [] wE [] (by kernel_rfl) (by decide) (fun v _=>v=nW l.length (HB l o) i) (fun _=>False) (fun v H h=>h) (fun c h=>h.elim) (n:=200) ?_;rw[gF];exact Vt (ABY _) (oO (AAT _) rfl)
theorem mX{l:A6}{q:Int}{a:Ag}{d:Bool}{s o z:Int}(hn:l.length < 1000000):Aa zX 21 AS (fun v _=>v=nW l.length (FK l q s) (Ox l.length (FK l q s))) (pF l l.length q a d s o z 0 l.length):=by
 refine iq (T:=fun i j=>pF l l.length q a d s o z i j) (g:=FK l q s) (n:=l.length) (_len:=l.length) (V:=nW l.length (FK l q s)) hn (fun i j hij hj c2 e1 e2 Q hc=>?_) (fun i hi=>?_) l.length 0 l.length (by omega) (AA4 _) (AAT _)
 .refine DA oT.pf [] [] v8 [] (by kernel_rfl) (by decide) (fun _ _=>False) (fun c=>c=c2) (fun v H h=>h.elim) (fun c h=>by rw[h];exact hc) (n:=300) ?_;rw[kF];exact bB (AAT _) hn hij hj (fun c=>(e1 c).symm) fun c=>(e2 c).symm
 .refine DA oT.pf [] [] v8 [] (by kernel_rfl) (by decide) (fun v _=>v=nW l.length (FK l q s) i) (fun _=>False) (fun v H h=>h) (fun c h=>h.elim) (n:=300) ?_;rw[kF];exact Vt (ABY _) (mQ (AAT _) rfl)
def zD(args:AL)(objs:Ay):GT:=match args,objs with
 | [.slice (some ⟨20,0,some 0⟩) n 18446744073709551616,.int .i64 o,.func (.func f) ⟨[]⟩ ⟨[]⟩],[.vec [.int .i64,.str,.bool,.int .i64,.int .i64,.int .i64] l _]=> .ask (n=l.length/\f=CC/\l.length < 1000000) (.ret ⟨nW l.length (HB l o) (Ox l.length (HB l o)),[],[]⟩)
 | _,_=> .fail
theorem jS:CH Tryz.prog AG AM (Ab AG 20 [] zD):=by
 refine Ar de.all (by kernel_rfl) (n:=A5 AM) (by kernel_rfl) (by kernel_rfl) fun argsc objs x hx hro=>?_
 clear hro;unfold zD at hx;split at hx
 .rename_i n o f l ro;simp only[GT.run]at hx;split at hx
  .rename_i hp0;cases hx
   obtain⟨rfl,rfl,hb⟩:=hp0;refine⟨VC (by kernel_rfl),AZ.mono (Q:=fun v _=>v=nW l.length (HB l o) (Ox l.length (HB l o))) (Aa.FG ?_) fun v H e=>by subst e;exact Cp rfl⟩;refine DA de.pf [] [] wE [] (by kernel_rfl) (show 21<=21 from AAT _) (fun _ _=>False) (fun c=>c=mC l l.length o 0 l.length) (fun v H h=>h.elim) (fun c h=>by rw[h];exact oI hb) (n:=200) (c:=st AM [Aq 20 l.length,int o,.func (.func CC) ⟨[]⟩ ⟨[]⟩] (hp [.vec Ak l true])) ?_;rw[sL];exact rfl
  .cases hx
 .cases hx
end Go.AB
