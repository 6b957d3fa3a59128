/-
  Part of the proof. No conditions.
-/
import Derived.Test.YtfnfimeefeigdaaGreatDoorPlb
noncomputable section
set_option maxRecDepth 1000000
namespace Go.AB
open Go.Proofs
section
variable {n z k o:Nat}{r:Int}{p:E2}{rs:Nat->List Dl}{us:Nat->Nat}
theorem eL(h1:EY p.t 1=false)(hb:Fh p.t 0<=p.t.res):(I3 p.t).2=11/\(I3 p.t).1=0/\Oz p=p:=by
 have e:I3 p.t=(0,11):=by unfold I3;rw[h1,AAY hb];rfl
 have e2:Mu p.t=p.t:=by unfold Mu;rw[h1,AAY hb];rfl
 refine⟨by rw[e],by rw[e],?_⟩;unfold Oz;rw[e2]
theorem Dr.take(h:Dr n z r k o p rs us)(h1:EY p.t 1=false)(hb:¬Fh p.t 0<=p.t.res):∃s:Nat,s < n/\(I3 p.t).1=(s:Nat)/\(I3 p.t).2=0/\rs s=[]/\Dr n z r k o (Oz p) rs us/\Cg (Oz p).t (s:Nat)=1/\Cg p.t (s:Nat)=0/\Oz p=⟨p.d,Bm p.t (s:Nat) 1,p.x,p.nx⟩:=by
 have h0:EY p.t 0=true:=by rw[PC];exact AAY (by have:=h.tok.r0;omega)
 obtain⟨hs,hst⟩:=h.fi h0;have e:I3 p.t=(Bv p.t 0,0):=by unfold I3;rw[h1,AAb hb];rfl
 have e2:Mu p.t=Bm p.t (Bv p.t 0) 1:=by unfold Mu;rw[h1,AAb hb];rfl
 generalize hsd:MF p.t.st 0=s at hs hst;have hfi:Bv p.t 0=(s:Nat):=by unfold Bv;rw[hsd]
 rw[hfi]at e e2;have hN:Oz p=⟨p.d,Bm p.t (s:Nat) 1,p.x,p.nx⟩:=by unfold Oz;rw[e2]
 have hset:∀t:Nat,Cg (Bm p.t (s:Nat) 1) (t:Nat)=if s=t then 1 else Cg p.t (t:Nat):=fun t=>M1 (by rw[h.tl];exact hs)
 obtain⟨t1,_,_⟩:=Oa h.tok (a:=0) (b:=1) (by decide) (by decide) (show(0:Int)<=(s:Nat) by omega) (by rw[h.tl];omega) hst;have hlt:(Bm p.t (s:Nat) 1).st.length=n:=WN.trans h.tl;have hno:∀t:Nat,t < n->Cg p.t (t:Nat)≠1:=fun t ht hc=>by
  have hm:1∈p.t.st:=by
   unfold Cg at hc;rw[AAa,AAX,AAU (by rw[h.tl];exact ht)]at hc;exact hc ▸ ABz _
  have:EY p.t 1=true:=AAY hm;rw[h1]at this;cases this
 have hrs:=h.e0 s hs hst;have him:=h.im s hs;rw[hst,hrs]at him;refine⟨s,hs,by rw[e],by rw[e],hrs,?_,?_,hst,hN⟩
 .rw[hN];refine⟨h.sl,h.dn,h.pl,h.len,h.o0,h.o1,h.n1,h.n2,t1,hlt,h.tr,fun t ht=>?_,fun t t' ht ht' g1 g2=>?_,fun t ht=>?_,fun t ht g0=>?_,h.u,h.sz,h.xl,h.xs,h.xi,h.ok,h.q,h.pU⟩
  .show Cg (Bm p.t (s:Nat) 1) (t:Nat)<=2;rw[hset];split
   .decide
   .exact h.ts t ht
  .have g1:Cg (Bm p.t (s:Nat) 1) (t:Nat)=1:=g1;have g2:Cg (Bm p.t (s:Nat) 1) (t':Nat)=1:=g2;rw[hset]at g1 g2
   by_cases e1:s=t
   .by_cases e2:s=t'
    .omega
    .rw[AAW e2]at g2;exact absurd g2 (hno t' ht')
   .rw[AAW e1]at g1;exact absurd g1 (hno t ht)
  .show Da p.d (t:Nat)=⟨(z:Int),(yQ (Cg (Bm p.t (s:Nat) 1) (t:Nat)) (rs t) (us t):Nat),rq (Cg (Bm p.t (s:Nat) 1) (t:Nat)) (rs t)⟩;rw[hset]
   by_cases e1:s=t
   .subst e1;rw[AAZ rfl,hrs,him];rfl
   .rw[AAW e1];exact h.im t ht
  .have g0:Cg (Bm p.t (s:Nat) 1) (t:Nat)=0:=g0;rw[hset]at g0
   by_cases e1:s=t
   .rw[AAZ e1]at g0;cases g0
   .rw[AAW e1]at g0;exact h.e0 t ht g0
 .rw[hN];show Cg (Bm p.t (s:Nat) 1) (s:Nat)=1;rw[hset,AAZ rfl]
def mA(n:Nat)(p:E2)(rs:Nat->List Dl):Prop:=∀s:Nat,s < n->Cg p.t (s:Nat)≠0->rs s≠[]
structure kJ(c:EL)(n z:Nat)(r:Int):Prop where
 cn:c.n=n
 cz:c.z=z
 cr:c.r=r
 n4:4<=n
 n9:n<=9
 r2:2<=r
 rn:r+2<=n
 z1:34<=z
 z2:z<=316
 v0:0<=c.v
 v1:c.v<=23
 zv:34+c.v<=z
theorem jR(b:Int):KO (Dp b)=0/\1<=(Dp b).size/\(Dp b).size<=2:=by
 unfold Dp;split
 .exact⟨by kernel_rfl,by decide,by decide⟩
 .split
  .exact⟨by kernel_rfl,by decide,by decide⟩
  .split
   .exact⟨by kernel_rfl,by decide,by decide⟩
   .split
    .exact⟨by kernel_rfl,by decide,by decide⟩
    .split
     .exact⟨by kernel_rfl,by decide,by decide⟩
     .exact⟨by kernel_rfl,by decide,by decide⟩
theorem bP(x:UInt8):∀n:Nat,(Go.Lib.repeatL [x] n).length=n
 | 0=>rfl
 | n+1=>by
  show([x]++Go.Lib.repeatL [x] n).length=n+1;rw[AAf,bP x n];show 1+n=n+1;omega
theorem ji{a b g v:Int}(h:U4 a b g v):((Wh a b g v).size:Int)<=v:=by
 have v0:=h.v0;obtain⟨l0,l1⟩:=kU h;unfold Wh;cases a % 8==5
 .rw[AAR];show(((ae b g v).data.size:Nat):Int)<=v;unfold ae;simp only[ACb];have:(Array.toList (ByteArray.data (oH b)))=[UInt8.ofNat (Int.toNat (IntKind.wrap .u8 (65+Int.tmod b 26)))]:=rfl;rw[this,bP];omega
 .rw[AAO];show(0:Int)<=v;exact v0
theorem sn{c:EL}{e f g:Int}(hm:U4 e f g c.v)(hv:c.v<=23)(n1:1<=p.nx)(n2:p.nx<=1000000):uv c p e f g/\((R3 c e f g:Nat):Int)<=18+c.v:=by
 obtain⟨k1,k2,k3⟩:=jR f;have hs:=ji hm;refine⟨⟨hm,?_⟩,?_⟩
 .have e1:(((ei e:Nat):Int)==1||(((ei e:Nat):Int)==2&&N9 (Wh e f g c.v)))=true:=by
   unfold ei Wh;cases e % 8==5
   .rfl
   .unfold N9;show(false||(true&&(ByteArray.toList { data:=#[] }==ByteArray.toList { data:=#[] })))=true;rw[ACB];rfl
  have e2:Mc (Wh e f g c.v) 512=0:=by
   unfold Mc;rw[AAb (by decide),AAb (by decide),AAb (by show ¬((Wh e f g c.v).size:Int) > 512;omega)];rfl
  unfold Di;rw[e1,k1,e2,AAb (by omega),AAb (by omega)];rfl
 .unfold R3 Ce;omega
theorem Dr.step(h:Dr n z r k o p rs us)(hne:mA n p rs){c:EL}(hc:kJ c n z r){e f g:Int}(hm:U4 e f g c.v)(hk:k < 900)(ho:o < 90000):ZF c p e f g/\∃rs',Dr n z r (k+1) (o+3) (l7 c p e f g) rs' us/\mA n (l7 c p e f g) rs':=by
 obtain⟨cn,cz,cr,n4,n9,r2,rn,z1,z2,v0,v1,zv⟩:=hc;have n1:=h.n1;have n2:=h.n2;obtain⟨hrc,hsz⟩:=sn (p:=p) hm v1 n1 (by omega);have hres:∀q:E2,q.t.res=r->(Fh q.t 0<=c.r)=(Fh q.t 0<=q.t.res):=fun q hq=>by rw[cr,hq]
 have putAll:∀(o1:Nat)(p1:E2)(rs1:Nat->List Dl)(s:Nat),o1<=o+2->p1.nx=p.nx->Dr n z r k o1 p1 rs1 us->(∀t:Nat,t < n->t≠s->Cg p1.t (t:Nat)≠0->rs1 t≠[])->s < n->Cg p1.t (s:Nat)=1->(Dw (rs1 s)).length+R3 c e f g+16<=z->
  sU c e f g p1 (s:Nat)/\∃rs',Dr n z r (k+1) (o+3) (jo c e f g p1 (s:Nat)) rs' us/\mA n (jo c e f g p1 (s:Nat)) rs':=by
  intro o1 p1 rs1 s ho1 hnx h1 hne1 hs hst hz;obtain⟨q1,q2⟩:=h1.put hs hst (kd:=ei e) (ky:=Dp f) (vl:=Wh e f g c.v) (by rw[hnx];exact hrc.ok) hz (by omega) (by omega) n9 (by omega);refine⟨q1,_,q2.mono (by omega),fun t ht h0=>?_⟩;have h0:Cg p1.t (t:Nat)≠0:=h0
  by_cases e1:t=s
  .subst e1;rw[Pe];simp
  .rw[PU _ _ e1];exact hne1 t ht e1 h0
 have tkAll:∀(o1:Nat)(p1:E2),o1<=o+2->p1.nx=p.nx->Dr n z r k o1 p1 rs us->mA n p1 rs->EY p1.t 1=false->sk c e f g p1/\∃rs',Dr n z r (k+1) (o+3) (O0 c e f g p1) rs' us/\mA n (O0 c e f g p1) rs':=by
  intro o1 p1 ho1 hnx h1 hne1 hno
  by_cases hb:Fh p1.t 0<=p1.t.res
  .obtain⟨b1,_,b2⟩:=eL hno hb;refine⟨.inr b1,rs,?_⟩;have:O0 c e f g p1=p1:=by unfold O0;rw[b1,b2];rfl
   rw[this];exact⟨(h1.mono (by omega)).next,hne1⟩
  .obtain⟨s,hs,b1,b2,b3,b4,b5,b6,b7⟩:=h1.take hno hb;obtain⟨q1,q2⟩:=putAll o1 (Oz p1) rs s ho1 hnx b4 (fun t ht hts h0=>hne1 t ht (by
    rw[b7]at h0;have h0:Cg (Bm p1.t (s:Nat) 1) (t:Nat)≠0:=h0;rw[M1 (by rw[h1.tl];exact hs),AAW (ABB hts)]at h0;exact h0)) hs b5 (by rw[b3];show 0+_+16<=z;omega)
   refine⟨.inl ⟨b2,by rw[b1];exact q1⟩,?_⟩;have:O0 c e f g p1=jo c e f g (Oz p1) (s:Nat):=by unfold O0;rw[b2,b1];rfl
   rw[this];exact q2
 unfold ZF l7;cases h1:EY p.t 1
 .simp only[AAR];cases h2:Int.tmod e 8==6
  .simp only[AAR];obtain⟨q1,q2⟩:=tkAll o p (by omega) rfl h hne h1;exact⟨⟨hrc,q1⟩,q2⟩
  .simp only[AAO];exact⟨trivial,rs,(h.mono (by omega)).next,hne⟩
 .simp only[AAO];obtain⟨hs,hst⟩:=h.fi h1;have hfi:Bv p.t 1=((MF p.t.st 1:Nat):Int):=rfl;have hnes:=hne _ hs (by rw[hst];decide);obtain⟨c1,c2,c3,c4,c5⟩:=h.close h1 hnes hk (by omega) n9;have hne2:mA n (aR p) rs:=fun t ht h0=>by
   by_cases e1:Cg p.t (t:Nat)=0
   .exfalso;apply h0
    show Cg (Bm p.t (Bv p.t 1) 2) (t:Nat)=0;rw[hfi,M1 (by rw[h.tl];exact hs),AAW (by rintro rfl;rw[hst]at e1;cases e1)];exact e1
   .exact hne t ht e1
  cases h2:Int.tmod e 8==6
  .simp only[AAR];rw[hfi];generalize MF p.t.st 1=s at hs hst hnes;have him:=h.im s hs;rw[hst]at him;have hroom:Bq p.d (s:Nat)=(z:Int) - ((Dw (rs s)).length:Nat):=by
    have e:Bq p.d (s:Nat)=(Da p.d (s:Nat)).size - (Da p.d (s:Nat)).b.length:=rfl;rw[e,him];rfl
   have hbad:=IK h.len (show s < n+2 by omega);have hsz2:=h.sz s hs;cases h3:Yr p.d (s:Nat) (R3 c e f g)
   .simp only[AAR];cases h4:decide (Fh p.t 0<=c.r)
    .simp only[AAR];obtain⟨q1,q2⟩:=tkAll (o+2) (aR p) (by omega) c4 c2 hne2 c3;exact⟨⟨hrc,⟨h.dn,hbad⟩,c1,q1⟩,q2⟩
    .simp only[AAO];exact⟨⟨hrc,⟨h.dn,hbad⟩,trivial⟩,rs,(h.mono (by omega)).next,hne⟩
   .simp only[AAO];have hz:(Dw (rs s)).length+R3 c e f g+16<=z:=by
     unfold Yr at h3;have h3:=ABU h3;rw[hroom,wrap64 (by omega) (by omega)]at h3;omega
    obtain⟨q1,q2⟩:=putAll o p rs s (by omega) rfl h (fun t ht _=>hne t ht) hs hst hz;exact⟨⟨hrc,⟨h.dn,hbad⟩,q1⟩,q2⟩
  .simp only[AAO];exact⟨c1,rs,(c2.mono (by omega)).next,hne2⟩
end
section
variable {n z k o:Nat}{r:Int}{p:E2}{rs:Nat->List Dl}{us:Nat->Nat}{c:EL}
theorem lB(hc:kJ c n z r):Dr n z r 0 0 (Hj c) (fun _=>[]) (fun _=>0)/\mA n (Hj c) (fun _=>[]):=by
 obtain⟨cn,cz,cr,n4,n9,r2,rn,z1,z2,v0,v1,zv⟩:=hc;have hn:c.n.toNat=n:=by rw[cn];exact AAa n
 have hst:∀s:Nat,Cg (OA c.n c.r) (s:Nat)=0:=fun s=>by
  unfold Cg OA;simp only[AAa];rw[AAX,ABt];split<;>rfl
 have hsl:∀s:Nat,Cn (pS c.n.toNat) s=[]:=fun s=>by
  unfold Cn pS;rw[AAX,ABt];split<;>rfl
 refine⟨⟨cn,rfl,rfl,?_,ACL _,ACL _,ACL _,ACL _,Z8 (by omega) (by omega) (by omega) (by omega),?_,cr,fun s hs=>?_,fun s s' _ _ h1=>?_,fun s hs=>?_,fun _ _ _=>rfl,fun _ _=>AAT _,fun s hs=>?_,?_,fun s hs=>?_,⟨fun q hq=>(by cases hq),AAT _,fun q hq=>(by cases hq)⟩,fun s hs x hx=>(by cases hx),fun s hs x hx=>(by cases hx),fun s hs=>AAT _⟩,fun s hs h0=>?_⟩
 .show(List.map _ (eV c.n.toNat c.z)).length=_;rw[ABI,PX,hn]
 .show(List.replicate _ _).length=n;rw[AAr,hn]
 .show Cg (OA c.n c.r) (s:Nat)<=2;rw[hst];decide
 .have h1:Cg (OA c.n c.r) (s:Nat)=1:=h1;rw[hst]at h1;cases h1
 .show Da ⟨(eV c.n.toNat c.z).map fun a=>⟨a,0,[]⟩,none,c.n,0,false⟩ (s:Nat)=⟨(z:Int),(yQ (Cg (OA c.n c.r) (s:Nat)) [] 0:Nat),rq (Cg (OA c.n c.r) (s:Nat)) []⟩;rw[hst];unfold Da eV;simp only[AAa,ACx,List.map_replicate];rw[AAX,ABD (by rw[AAr];omega),ABt,AAZ (by omega),cz];rfl
 .show 0+16<=z;omega
 .show(List.replicate _ _).length=n;rw[AAr,hn]
 .show Cn (pS c.n.toNat) s=[];exact hsl s
 .have h0:Cg (OA c.n c.r) (s:Nat)≠0:=h0;exact absurd (hst s) h0
def Sv(l:List RC):Prop:=∀y∈l,(0<=y.1/\0<=y.2.1)/\0<=y.2.2/\y.2.2 < 256
theorem sB{l:List RC}(hl:Sv l){v:Int}(v0:0<=v)(v1:v<=23)(i:Int):U4 (ay l i).1 (ay l i).2.1 (ay l i).2.2 v:=by
 unfold ay;rw[AAX];cases h:l[0+i.toNat]? with
 | none=>exact⟨by decide,by decide,by decide,by decide,v0,by omega⟩
 | some y=>
  obtain⟨⟨a,b⟩,c,d⟩:=hl y (AA1 h);exact⟨a,b,c,d,v0,by omega⟩
theorem j9(hc:kJ c n z r){l:List RC}(hl:Sv l):∀(j i k o:Nat)(p:E2)(rs:Nat->List Dl),Dr n z r k o p rs us->mA n p rs->k+j<=800->o+3 * j<=80000->
 TH c l j i p/\∃rs',Dr n z r (k+j) (o+3 * j) (SU c l j i p) rs' us/\mA n (SU c l j i p) rs'
 | 0,i,k,o,p,rs,h,hne,_,_=>⟨trivial,rs,h,hne⟩
 | j+1,i,k,o,p,rs,h,hne,hk,ho=>by
  obtain⟨s1,rs1,s2,s3⟩:=h.step hne hc (sB hl hc.v0 hc.v1 (i:Nat)) (by omega) (by omega);obtain⟨q1,rs2,q2,q3⟩:=j9 hc hl j (i+1) (k+1) (o+3) _ rs1 s2 s3 (by omega) (by omega);rw[show k+1+j=k+(j+1) by omega,show o+3+3 * j=o+3 * (j+1) by omega]at q2;exact⟨⟨s1,q1⟩,rs2,q2,q3⟩
theorem xC{a b c d e f g:Int}(h:c7 a b c d e f g):∃(n z:Nat) (r:Int),kJ (Io a b c d e f g) n z r:=by
 obtain⟨r1,r2,r3,r4,r5,r6,r7,r8,r9,r10,r11⟩:=yF h;exact⟨(Io a b c d e f g).n.toNat,(Io a b c d e f g).z.toNat,(Io a b c d e f g).r,by omega,by omega,rfl,by omega,by omega,r3,by omega,by omega,by omega,r9,r10,by omega⟩
theorem Dr.more{k' o':Nat}(h:Dr n z r k o p rs us)(hk:k<=k')(ho:o<=o'):Dr n z r k' o' p rs us:=by
 have:∀j,Dr n z r (k+j) o p rs us:=fun j=>by
  induction j with
  | zero=>exact h
  | succ j ih=>exact ih.next
 have h2:=this (k' - k);rw[show k+(k' - k)=k' by omega]at h2;exact h2.mono ho
theorem oA(hc:kJ c n z r){l:List RC}(hl:Sv l)(m:Nat):TH c l (l8 m) 0 (Hj c)/\∃rs,Dr n z r 60 180 (oP c l m) rs (fun _=>0)/\mA n (oP c l m) rs:=by
 obtain⟨h1,h2⟩:=lB hc;have hm:=(Xk m).2;obtain⟨q1,rs,q2,q3⟩:=j9 hc hl (l8 m) 0 0 0 _ _ h1 h2 (by omega) (by omega);exact⟨q1,rs,q2.more (by omega) (by omega),q3⟩
end
abbrev DH:=Op.bytesLess
theorem UI:∀x:List UInt8,DH x x=false
 | []=>rfl
 | a::x=>by
  show(decide (a < a)||(a==a&&DH x x))=false;rw[UI x,Bool.and_false,ACg];exact AAb (UInt8.lt_irrefl a)
theorem iP(x:List UInt8):DH x []=false:=by cases x<;>rfl
theorem MQ:∀{x y z:List UInt8},DH x y=true->DH y z=true->DH x z=true
 | _,y,[],_,h=>by rw[iP]at h;cases h
 | x,[],_::_,h,_=>by rw[iP]at h;cases h
 | [],_::_,_::_,_,_=>rfl
 | a::x,b::y,c::z,g1,g2=>by
  have g1:(decide (a < b)||(a==b&&DH x y))=true:=g1;have g2:(decide (b < c)||(b==c&&DH y z))=true:=g2;show(decide (a < c)||(a==c&&DH x z))=true;simp only[ABa,AAQ,AAl,ACl]at g1 g2 ⊢;rcases g1 with h1 | ⟨e1,h1⟩<;>rcases g2 with h2 | ⟨e2,h2⟩
  .exact .inl (UInt8.lt_trans h1 h2)
  .rw[<-e2];exact .inl h1
  .rw[e1];exact .inl h2
  .exact .inr ⟨e1.trans e2,MQ h1 h2⟩
theorem kN:∀{x y:List UInt8},DH x y=false->x≠y->DH y x=true
 | [],[],_,h=>absurd rfl h
 | [],_::_,h,_=>by cases h
 | _::_,[],_,_=>rfl
 | a::x,b::y,h,hne=>by
  have h:(decide (a < b)||(a==b&&DH x y))=false:=h;show(decide (b < a)||(b==a&&DH y x))=true;simp only[ABk,ABE,ABf,AA7]at h;simp only[ABa,AAQ,AAl,ACl];obtain⟨h1,h2⟩:=h
  by_cases e:a=b
  .subst e;rcases h2 with h2 | h2
   .exact absurd rfl h2
   .exact .inr ⟨rfl,kN h2 fun e=>hne (by rw[e])⟩
  .left
   rcases UInt8.lt_or_lt_of_ne e with h | h
   .exact absurd h h1
   .exact h
def qx(l:List (List UInt8)):Prop:=l.Pairwise fun a b=>DH a b=true
def rk(l:List (List UInt8))(k:List UInt8):Nat:=Wa (fun m=>DH (l.getD m []) k) l.length 0 l.length
theorem rK{k:List UInt8}:∀{l:List (List UInt8)},qx l->∃r,r<=l.length/\∀m,m < l.length->(DH (l.getD m []) k=true <-> m < r)
 | [],_=>⟨0,AAT _,fun m h=>absurd h (ADI _)⟩
 | a::l,h=>by
  obtain⟨h1,h2⟩:=List.pairwise_cons.1 h;cases hc:DH a k
  .refine⟨0,AA4 _,fun m hm=>⟨fun hb=>?_,fun h=>absurd h (ADI _)⟩⟩;cases m with
   | zero=>rw[show(a::l).getD 0 []=a from rfl,hc]at hb;cases hb
   | succ m=>
    have hm:m < l.length:=by simpa using hm
    have e:(a::l).getD (m+1) []=l[m]:=by rw[AAX,ABK,AAU hm];rfl
    rw[e]at hb;have:=MQ (h1 _ (ABz hm)) hb;rw[hc]at this;cases this
  .obtain⟨r,hr,hs⟩:=rK (k:=k) h2;refine⟨r+1,by simpa using hr,fun m hm=>?_⟩;cases m with
   | zero=>exact⟨fun _=>ADE _,fun _=>hc⟩
   | succ m=>
    have hm:m < l.length:=by simpa using hm
    have:=hs m hm;exact⟨fun hb=>Nat.succ_lt_succ (this.1 hb),fun h=>this.2 (Nat.lt_of_succ_lt_succ h)⟩
theorem bK{k:List UInt8}{l:List (List UInt8)}(h:qx l):rk l k<=l.length/\∀m,m < l.length->(DH (l.getD m []) k=true <-> m < rk l k):=by
 obtain⟨r,hr,hs⟩:=rK (k:=k) h;have e:rk l k=r:=Rq _ r l.length 0 l.length (by omega) (AA4 _) hr fun m _ hm=>hs m hm
 rw[e];exact⟨hr,hs⟩
theorem UM{l:List (List UInt8)}{r:Nat}{a:List UInt8}(h:a∈l.take r):∃m,m < r/\m < l.length/\l.getD m []=a:=by
 obtain⟨m,hm,e⟩:=List.mem_take_iff_getElem.1 h;exact⟨m,by omega,by omega,by rw[AAX,AAU (by omega)];exact e⟩
theorem Uh{l:List (List UInt8)}{r:Nat}{a:List UInt8}(h:a∈l.drop r):∃m,r<=m/\m < l.length/\l.getD m []=a:=by
 obtain⟨m,hm,e⟩:=List.mem_drop_iff_getElem.1 h;exact⟨r+m,by omega,by omega,by rw[AAX,AAU (by omega)];exact e⟩
theorem pc{k:List UInt8}{l:List (List UInt8)}(h:qx l)(hn:rk l k < l.length->l.getD (rk l k) []≠k):qx (l.take (rk l k)++k::l.drop (rk l k))/\rk (l.take (rk l k)++k::l.drop (rk l k)) k=rk l k:=by
 obtain⟨hr,hs⟩:=bK (k:=k) h;generalize hrk:rk l k=r at hr hs hn;have hlow:∀a∈l.take r,DH a k=true:=fun a ha=>by
  obtain⟨m,h1,h2,rfl⟩:=UM ha;exact(hs m h2).2 h1
 have hhigh:∀a∈l.drop r,DH k a=true:=fun a ha=>by
  obtain⟨m,h1,h2,rfl⟩:=Uh ha;refine kN ?_ fun e=>?_
  .cases hb:DH (l.getD m []) k
   .rfl
   .have:=(hs m h2).1 hb;omega
  .by_cases hm:m=r
   .subst hm;exact hn h2 e
   .have hrl:r < l.length:=by omega
    have h3:DH (l.getD r []) (l.getD m [])=true:=by
     rw[AAX,AAX,AAU hrl,AAU h2];exact List.pairwise_iff_getElem.1 h r m hrl h2 (by omega)
    rw[e]at h3;have:=(hs r hrl).1 h3;omega
 have hS:qx (l.take r++k::l.drop r):=by
  refine List.pairwise_append.2 ⟨ADL (List.take_sublist _ _) h,List.pairwise_cons.2 ⟨hhigh,ADL (List.drop_sublist _ _) h⟩,fun a ha b hb=>?_⟩;rcases List.mem_cons.1 hb with rfl | hb
  .exact hlow a ha
  .exact MQ (hlow a ha) (hhigh b hb)
 refine⟨hS,?_⟩;have hlen:(l.take r).length=r:=by rw[AAh];omega
 refine Rq _ r _ 0 _ (by omega) (AA4 _) (by rw[AAf,AAz,hlen];omega) fun m _ hm=>?_
 rw[AAf,AAz,hlen]at hm;rw[AAX]
 by_cases h1:m < r
 .rw[ABD (by omega),AAU (by omega)];exact⟨fun _=>h1,fun _=>hlow _ (ABz _)⟩
 .rw[ABG (by omega),hlen]
  by_cases h2:m=r
  .subst h2;rw[ABQ];show DH k k=true <-> m < m;rw[UI];exact⟨fun h=>Bool.noConfusion h,fun h=>absurd h (ABY _)⟩
  .obtain⟨j,hj⟩:∃j,m - r=j+1:=⟨m - r - 1,by omega⟩
   rw[hj,ABK,AAU (by omega)];refine⟨fun hb=>?_,fun h=>absurd h h1⟩;have h3:=hhigh _ (ABz (l:=l.drop r) (n:=j) (by omega));have hb:DH (l.drop r)[j] k=true:=hb;have:=MQ h3 hb;rw[UI]at this;cases this
def J6(x:B6):List (List UInt8):=x.keys.map fun p=>ByteArray.toList p.1
theorem U0:ByteArray.toList ((EK.BJ DU).1:Ag)=[]:=by
 show ByteArray.toList { data:=#[] }=[];unfold ByteArray.toList ByteArray.toList.loop;rfl
theorem oe(x:B6)(a:Ag)(m:Nat):LX (CS 25 x.keys) a m=DH ((J6 x).getD m []) (ByteArray.toList a):=by
 unfold LX J6;rw[AAX,GP,AAX,AAi];cases x.keys[m]? with
 | none=>show Op.bytesLess (ByteArray.toList (EK.BJ DU).1) _=_;rw[U0];rfl
 | some p=>rfl
theorem YK(x:B6)(a:Ag):Ew x a=rk (J6 x) (ByteArray.toList a):=by
 have e:LX (CS 25 x.keys) a=fun m=>DH ((J6 x).getD m []) (ByteArray.toList a):=funext fun m=>oe x a m
 have hl:(CS 25 x.keys).length=(J6 x).length:=by rw[Cm];unfold J6;rw[ABI]
 unfold Ew B0 rk;rw[e,hl]
theorem V2(x:B6)(a:Ag):Fe x a=(decide (rk (J6 x) (ByteArray.toList a) < (J6 x).length)&&((J6 x).getD (rk (J6 x) (ByteArray.toList a)) []==ByteArray.toList a)):=by
 have hl:(CS 25 x.keys).length=(J6 x).length:=by rw[Cm];unfold J6;rw[ABI]
 have hj:=YK x a;unfold Ew at hj;unfold Fe GK;rw[hj,hl]
 congr 2
 generalize rk (J6 x) (ByteArray.toList a)=m;unfold J6;rw[AAX,GP,AAX,AAi];cases x.keys[m]? with
 | none=>exact U0
 | some p=>rfl
section
variable {x:B6}{q:Int}{a:Ag}{d:Bool}{s:Nat}{o z:Int}
theorem rO(h0:DF x q a d s o z=0):Ef x q a d s o z=⟨II x q a d s o z,x.AO.set s (Ge (Cn x s) (J5 (Cn x s) o) (q,a,d,(s:Int),o,z))⟩:=by
 unfold Ef;rw[show(DF x q a d s o z==0)=true from by rw[h0];rfl,AAO]
theorem oX(hh:Fe x a=true)(h0:DF x q a d s o z=0):J6 (Ef x q a d s o z)=J6 x:=by
 obtain⟨k,hk,hk2⟩:=Xh hh;rw[rO h0];unfold J6 II;rw[hh,AAO,hk2];apply ACE
 intro i;rw[AAi,AAi,AAe]
 by_cases e:Ew x a=i
 .subst e;rw[AAZ rfl,AAZ (List.getElem?_eq_some_iff.1 hk).1,hk];rfl
 .rw[AAW e]
theorem p8(hh:Fe x a=false)(h0:DF x q a d s o z=0):J6 (Ef x q a d s o z)=(J6 x).take (rk (J6 x) (ByteArray.toList a))++ByteArray.toList a::(J6 x).drop (rk (J6 x) (ByteArray.toList a)):=by
 rw[rO h0,<-YK];unfold J6 II;rw[hh,AAR,ACx,AAn,List.map_take,List.map_drop]
theorem nV(hh:Fe x a=false):rk (J6 x) (ByteArray.toList a) < (J6 x).length->(J6 x).getD (rk (J6 x) (ByteArray.toList a)) []≠ByteArray.toList a:=fun hlt e=>by
 rw[V2,AAY hlt,e,ACB]at hh;cases hh
theorem vo(hS:qx (J6 x)):qx (J6 (Ef x q a d s o z)):=by
 by_cases h0:DF x q a d s o z=0
 .cases hh:Fe x a
  .rw[p8 hh h0];exact(pc hS (nV hh)).1
  .rw[oX hh h0];exact hS
 .have e:Ef x q a d s o z=x:=by
   unfold Ef;rw[AA7.2 h0];rfl
  rw[e];exact hS
end
section
variable (hW:CH Tryz.prog AG DN tT)
variable {n z k o:Nat}{r:Int}{p:E2}{rs:Nat->List Dl}{us:Nat->Nat}{c:EL}
theorem Dr.bad(h:Dr n z r k o p rs us){s:Nat}(hs:s < n):p.d.down=false/\BR p.d.BI (s:Nat)=false:=⟨h.dn,IK h.len (by omega)⟩
theorem Dr.sync(h:Dr n z r k o p rs us){s:Nat}(hs:s < n)(hst:Cg p.t (s:Nat)=1)(ho:o < 100000):SF p.d (s:Nat)=(0,⟨Ee DP (s:Nat) p.d.BI,none,p.d.AO,p.d.ops+1,false⟩)/\
 Dr n z r k (o+1) ⟨⟨Ee DP (s:Nat) p.d.BI,none,p.d.AO,p.d.ops+1,false⟩,p.t,p.x,p.nx⟩ rs (W9 us s (rs s).length):=by
 have o0:=h.o0;have o1:=h.o1;have hdw:=UF o0 (by omega);have e:=aU h.dn h.pl h.len (show s < n+2 by omega);rw[hdw]at e;refine⟨e,⟨h.sl,rfl,rfl,(Hs DP ((s:Nat):Int) p.d.BI).trans h.len,by show 0<=p.d.ops+1;omega,by show p.d.ops+1<=_;omega,h.n1,h.n2,h.tok,h.tl,h.tr,h.ts,h.ta,fun t ht=>?_,h.e0,fun t ht=>?_,h.sz,h.xl,h.xs,h.xi,h.ok,h.q,h.pU⟩⟩
 .show Da ⟨Ee DP _ _,_,_,_,_⟩ _=⟨(z:Int),(yQ (Cg p.t (t:Nat)) (rs t) (W9 us s (rs s).length t):Nat),rq (Cg p.t (t:Nat)) (rs t)⟩;rw[K7 (by rw[h.len];omega)]
  by_cases e:s=t
  .subst e;rw[AAZ rfl,h.im s hs,Pe,hst];show(⟨z,((Dw (rs s)).length:Nat),Dw (rs s)⟩:AX)=⟨z,((Dw ((rs s).take (rs s).length)).length:Nat),Dw (rs s)⟩;rw[ABh]
  .rw[AAW e,PU _ _ (ABB e)];exact h.im t ht
 .by_cases e:t=s
  .subst e;rw[Pe];exact AAT _
  .rw[PU _ _ e];exact h.u t ht
end
structure Kg(x:B6):Prop where
 srt:qx (J6 x)
 ne:∀p∈x.keys,p.2≠[]
theorem qa{x:B6}{q:Int}{a:Ag}{d:Bool}{s:Nat}{o z:Int}(h:Kg x):Kg (Ef x q a d s o z):=by
 refine⟨vo h.srt,fun p hp=>?_⟩;unfold Ef at hp;cases h0:(DF x q a d s o z==0)
 .rw[h0,AAR]at hp;exact h.ne p hp
 .rw[h0,AAO]at hp;have hp:p∈II x q a d s o z:=hp;unfold II at hp;cases hh:Fe x a
  .rw[hh,AAR]at hp;rcases List.mem_append.1 hp with hp | hp
   .exact h.ne p (ACD hp)
   .rcases List.mem_cons.1 hp with rfl | hp
    .exact fun e=>by cases e
    .exact h.ne p (ABl hp)
  .rw[hh,AAO]at hp;rcases ABn hp with hp | rfl
   .exact h.ne p hp
   .unfold Ge;simp
section
variable {c:EL}{p q:E2}{y:RC}{e f g s:Int}
theorem qf(h:Kg q.x):Kg (O0 c e f g q).x:=by
 unfold O0;cases ((I3 q.t).2 != 0)
 .exact qa h
 .exact h
theorem wv(h:Kg p.x):Kg (xR c p y).x:=by
 unfold xR l7;cases EY p.t 1
 .rw[AAR];cases (Int.tmod y.1 8==6)
  .exact qf h
  .exact h
 .rw[AAO];cases (Int.tmod y.1 8==6)
  .rw[AAR];cases Yr p.d (Bv p.t 1) (R3 c y.1 y.2.1 y.2.2)
   .rw[AAR];cases decide (Fh p.t 0<=c.r)
    .exact qf (q:=aR p) h
    .exact h
   .exact qa h
  .exact h
theorem fq{l:List RC}:∀(j i:Nat)(p:E2),Kg p.x->Kg (SU c l j i p).x
 | 0,_,_,h=>h
 | j+1,i,_,h=>fq j (i+1) _ (wv h)
theorem xo{l:List RC}{m:Nat}:Kg (oP c l m).x:=fq _ _ _ ⟨List.Pairwise.nil,fun _ h=>by cases h⟩
end
theorem yc{x:B6}(h:Kg x)(h0:0 < x.AO.length)(hk:x.keys.length < 1000000):UW x:=by
 refine⟨h0,hk,fun i k l hg=>?_⟩;have hi:=(List.getElem?_eq_some_iff.1 hg).1;have hl:(J6 x).length=x.keys.length:=ABI ..;have hK:(J6 x).getD i []=ByteArray.toList k:=by unfold J6;rw[AAX,AAi,hg];rfl
 obtain⟨h1,h2⟩:=bK (k:=ByteArray.toList k) h.srt;have e:rk (J6 x) (ByteArray.toList k)=i:=by
  generalize rk (J6 x) (ByteArray.toList k)=r at h1 h2;have h3:=h2 i (by omega);rw[hK,UI]at h3;have h4:¬i < r:=fun hc=>Bool.noConfusion (h3.2 hc)
  by_cases hc:r < i
  .have h5:=(h2 r (by omega)).1;have h6:DH ((J6 x).getD r []) ((J6 x).getD i [])=true:=by
    rw[AAX,AAX,AAU (by omega),AAU (by omega)];exact List.pairwise_iff_getElem.1 h.srt r i (by omega) (by omega) hc
   rw[hK]at h6;exact absurd (h5 h6) (ABY _)
  .omega
 refine⟨(YK x k).trans e,?_,h.ne _ (AA1 hg)⟩;have hh:Fe x k=true:=by rw[V2,e,hK,AAY (by omega),ACB];rfl
 exact hh
theorem rJ{M:Int}:∀(K:List (Ag × A6))(a:Int),a<=M->(∀p∈K,(pO p.2).1<=M)->K.foldl sW a<=M/\a<=K.foldl sW a
 | [],_,h,_=>⟨h,ACL _⟩
 | p::K,a,h,hK=>by
  have h1:sW a p<=M/\a<=sW a p:=by
   have:=hK p (ABL ..);unfold sW;split<;>omega
  obtain⟨k1,k2⟩:=rJ K (sW a p) h1.1 fun x hx=>hK x (ABT _ hx)
  exact⟨k1,ADS h1.2 k2⟩
section
variable (hW:CH Tryz.prog AG DN tT)
variable {n z k o:Nat}{r:Int}{p:E2}{rs:Nat->List Dl}{us:Nat->Nat}{c:EL}
theorem Dr.last(h:Dr n z r k o p rs us):0<=Qz p.x.keys/\Qz p.x.keys<=k:=by
 have n2:=h.n2;obtain⟨h1,h2⟩:=rJ (M:=k) p.x.keys 0 (by omega) fun y hy=>by
  unfold pO;cases he:y.2 with
  | nil=>show(0:Int)<=k;omega
  | cons e es=>
   have:=h.xi.key y hy e (by rw[he];exact ABL ..);show e.1<=k;omega
 exact⟨h2,h1⟩
theorem Dr.xE(h:Dr n z r k o p rs us)(h0:0 < n):DQ p.d 0+Bq p.d 0=z:=by
 have him:=h.im 0 h0;show((Da p.d ((0:Nat):Int)).b.length:Int)+((Da p.d ((0:Nat):Int)).size - (Da p.d ((0:Nat):Int)).b.length)=z;rw[him];generalize rq (Cg p.t ((0:Nat):Int)) (rs 0)=B;show(B.length:Int)+((z:Int) - (B.length:Int))=z;omega
theorem Dr.eW(h:Dr n z r k o p rs us)(h0:0 < n)(hz:z<=1000){y:Int}(hy:y<=16\/y > z - 16):eW p.d y=true:=by
 have:=h.xE h0;unfold Go.AB.eW;cases h1:decide (y<=16)
 .rw[AAR];refine AAY ?_;rw[wrap64 (x:=DQ p.d 0+Bq p.d 0) (by omega) (by omega),wrap64 (by omega) (by omega)];have:=ACZ h1;omega
 .rfl
theorem Dr.zS(h:Dr n z r k o p rs us)(h0:0 < n)(hz:z<=1000){y:Int}(hy:y<=16\/y > z - 16):(ck p.d p.t y != 2)=false:=by
 unfold ck;rw[h.dn,AAR,h.eW h0 hz hy];rfl
theorem xB{k q:Int}{a b:Ag}(h:(KO a==0)=false):Di k q a b=false:=by
 unfold Di;rw[h];simp
theorem lq{k q:Int}{a b:Ag}(h:(k==1||(k==2&&N9 b))=false):Di k q a b=false:=by
 unfold Di;rw[h];rfl
theorem wZ{k q:Int}{a b:Ag}(h:q > 1099511627776):Di k q a b=false:=by
 unfold Di;rw[AAY h];simp
include hW in
theorem nY{a b c d e f g:Int}(hs:c7 a b c d e f g){l:List RC}(hl:Sv l){m:Nat}(hm:m<=l.length){C3:Int}(f0:0<=C3)(f1:C3 < 65536):Aa sI 21 BT (fun v _=>v= .bool true) (st BT [tO a b c d e f g m,.int .u16 C3] (hp [.vec aN l true])):=by
 obtain⟨n,z,r,hc⟩:=xC hs;obtain⟨hall,rs,h,-⟩:=oA hc hl m;have hcz:=hc.cz;have n9:=hc.n9;have n4:=hc.n4;have z1:=hc.z1;have z2:=hc.z2;have hxk:Kg (oP (Io a b c d e f g) l m).x:=xo;have hv:Bu sI (As zG) [] BT [] 21 (fun v _=>v= .bool true) 3000 (st BT [tO a b c d e f g m,.int .u16 C3] (hp [.vec aN l true])):=by
  rw[yb];(conv=>zeta)
  generalize hp0:oP (Io a b c d e f g) l m=p at h hxk;rw[hcz];have n0:0 < n:=by omega
  have zb:z<=1000:=by omega
  have hsl:p.d.AO=(p.t.st.length:Int):=by rw[h.sl,h.tl]
  have hs0:0 < p.d.AO:=by rw[h.sl];omega
  have hxl:p.x.AO.length=p.t.st.length:=by rw[h.xl,h.tl]
  have hb0:BR p.d.BI 0=false:=(h.bad n0).2;have hba:EY p.t 1=true->BR p.d.BI (Bv p.t 1)=false:=fun ha=>(h.bad (h.fi ha).1).2
  have hfu:kS p.d p.t:=⟨hsl,hs0,fun _=>hb0,hba⟩;have hla:UW p.x:=yc hxk (by rw[h.xl];exact n0) (by have:=h.xi.kl;omega);obtain⟨l0,l1⟩:=h.last;generalize hL:Qz p.x.keys=L at l0 l1;have hax:∀{k q:Int}{a b:Ag},(Di k q a b=false\/q<=L\/eW p.d (Int.ofNat (Ce a b))=true)->SA p.d p.t p.x k q a b:=fun hb=>⟨hsl,hs0,hxl,hb0,hla,.inr (by rw[hL];exact hb)⟩
  have hax2:(SQ p.d != 2)=false:=by unfold SQ;rw[h.dn];rfl
  have hwf:IntKind.wrap .i64 C3=C3:=wrap64 (by omega) (by omega);have hwq:IntKind.wrap .i64 (L+1)=L+1:=wrap64 (by omega) (by omega);rw[hwf,hwq];have w1:IntKind.wrap .i64 (16 - C3)=16 - C3:=wrap64 (by omega) (by omega);have w2:IntKind.wrap .i64 (IntKind.wrap .i64 ((z:Int) - 15)+C3)=(z:Int) - 15+C3:=by rw[wrap64 (x:=(z:Int) - 15) (by omega) (by omega),wrap64 (by omega) (by omega)]
  have w3:IntKind.wrap .i64 (L - C3)=L - C3:=wrap64 (by omega) (by omega);rw[w1,w2,w3];have hdn:=h.dn;have hlen:=h.len;have e2:NI p.d 0 false [0]=(0,⟨Fg [0] p.d.BI p.d.BI.length,none,p.d.AO,p.d.ops,true⟩):=by
   unfold NI;rw[show Ff 0 [0]=true from by kernel_rfl,AAO,show decide ((0:Int) < 0)=false from rfl,AAR,hdn];rfl
  have hci:(Fg [0] p.d.BI p.d.BI.length).length=n+2:=(Fw ..).trans hlen;have e2':NI (id (id p.d)) 0 false [0]=(0,⟨Fg [0] p.d.BI p.d.BI.length,none,p.d.AO,p.d.ops,true⟩):=e2;rw[e2'];have hb0':BR (Fg [0] p.d.BI p.d.BI.length) 0=false:=IK hci (show 0 < n+2 by omega);have hba':EY p.t 1=true->BR (Fg [0] p.d.BI p.d.BI.length) (Bv p.t 1)=false:=fun ha=>IK hci (by have:=(h.fi ha).1;omega)
  refine⟨⟨hs,hm,hall⟩,hfu,AK (h.zS n0 zb (.inl (by omega))) ⟨hfu,AK (h.zS n0 zb (.inr (by omega))) ⟨hfu,AK (h.zS n0 zb (.inr (by omega))) ⟨hfu,AK (h.zS n0 zb (.inl (by omega))) ⟨hla,AD ?_ (AD ?_ ?_)⟩⟩⟩⟩⟩
  .rw[AAY (show(0:Int)<=(z:Int) by omega),AAY (show(z:Int)<=140737488355328 by omega)];rfl
  .rw[AAr,AAj,AAS (AAT _)]
  refine⟨hax (.inr (.inl (by omega))),rfl,AK hax2 ⟨hax (.inl (lq (by rfl))),rfl,AK hax2 ⟨hax (.inl (xB (by kernel_rfl))),rfl,AK hax2 ⟨hax (.inl (lq (by kernel_rfl))),rfl,AK hax2 ⟨hax (.inl (wZ (by decide))),rfl,AK hax2 ⟨hax (.inr (.inr ?_)),rfl,AK hax2 (AK ?_ ⟨hla,AK ?_ ⟨⟨rfl,by decide⟩,rfl,?_⟩⟩)⟩⟩⟩⟩⟩⟩
  .refine h.eW n0 zb (.inr ?_);rw[AA5,AAa,AAc (by rw[AAr];exact AAT _)];show((16+1+((List.replicate z (0:Int)).map _).length:Nat):Int) > _;rw[ABI,AAr];omega
  .show(p.d.ops != p.d.ops)=false;simp
  .simp
  .refine⟨⟨hsl,hs0,hxl,hb0',hla,.inl rfl⟩,rfl,AD rfl ⟨⟨hsl,hs0,fun hd=>Bool.noConfusion hd,hba'⟩,AD rfl ⟨⟨⟨hsl,hs0⟩,rfl⟩,rfl⟩⟩⟩
 exact Aa.mono (Av (wu hW).pf (by kernel_rfl) hv) fun v H e=>e
end
end Go.AB
namespace Go.AB
open Go.Proofs Go.ChangeShapes
theorem X4{P:Program}{W:World}{HH:Type}{enc:TypeId × Value->HH}{base:Nat}{sp:Nat->Bool}{held:Bool}{fuel:Nat}{t:TypeId}{cs:AL}{d:DataW HH}{ps:List MemPlace}{fs:Array Field}(hu:P.underlying t=some (.struct fs))(h:DataW.trod enc P W base sp held fuel t cs=some (d,ps)){fd:Field}(hfd:fd∈fs.toList):
 ∃fuel2 d2 ps2,DataW.trod enc P W base sp held fuel2 fd.type ((cs.drop fd.offset).take (P.cellsOf fd.type))=some (d2,ps2):=by
 cases fuel with
 | zero=>cases h
 | succ fuel=>
  unfold DataW.trod at h;rw[hu]at h;have key:∃xs,(fs.toList.mapM fun f=>DataW.trod enc P W base sp held fuel f.type ((cs.drop f.offset).take (P.cellsOf f.type)))=some xs:=by
   simp only at h
   by_cases hc:cs.length=P.cellsOf t
   .rw[AAZ hc,AAV]at h;obtain⟨xs,hxs,_⟩:=h;exact⟨xs,hxs⟩
   .rw[AAW hc]at h;cases h
  obtain⟨xs,hxs⟩:=key;obtain⟨⟨d2,ps2⟩,hy⟩:=mapM_mem hxs fd hfd;exact⟨fuel,d2,ps2,hy⟩
theorem Qr{n:Int}(h:IntKind.u8.has n):Og n:=⟨h.1,by have h2:n<=255:=h.2;omega⟩
theorem sr{l:List RC}(hl:∀y∈l,EK.NG aN y):Sv l:=fun y hy=>by
 have h:=hl y hy;have w:∀n:Int,(Lit.int .u8 n).wf=true->0<=n/\n < 256:=fun n h=>by
  unfold Lit.wf at h;simp only[AAQ,AAl]at h;have h1:(0:Int)<=n:=h.1;have h2:n<=255:=h.2;exact⟨h1,by omega⟩
 exact⟨⟨(w _ h.1).1,(w _ h.2.1).1⟩,(w _ h.2.2).1,(w _ h.2.2).2⟩
section
variable {HH:Type}{enc:TypeId × Value->HH}{W:World}
theorem j7{X:Ctx}(hL0:Dt X (Gp W) W)(hn:(X.laid.all fun p=>Nat.blt p.1 20)=true)(hg:∃g,(GL X.laid g).isSome=true){r:Go.Reach}{bs:Nat}{v:Value}(hok:Value.okWide Tryz.prog W r bs 25 v){held:Bool}{fuel:Nat}{d:DataW HH}{ps:List MemPlace}(htr:DataW.trod enc Tryz.prog W 0 (fun _=>true) held fuel 25 v.cells.toList=some (d,ps)):
 ∃(a b c d e f g:Int) (l:List RC) (Z:AW),c7 a b c d e f g/\Sv l/\AH (Gp W) W Z (hp [.vec aN l true]) W/\BX X Z/\AF Z (tO a b c d e f g l.length) v:=by
 obtain⟨cs,rfl,hf⟩:=fR (ts:=[5,5,5,5,5,5,5,23]) (by kernel_rfl) (by kernel_rfl) (by kernel_rfl) hok;cases hf with | cons h0 hf=>cases hf with | cons h1 hf=>cases hf with | cons h2 hf=>cases hf with | cons h3 hf=>cases hf with | cons h4 hf=>cases hf with | cons h5 hf=>cases hf with | cons h6 hf=>cases hf with | cons h7 hf=>
 cases hf
 obtain⟨a,rfl,ea⟩:=Iq Tryz.underlying5 h0;obtain⟨b,rfl,eb⟩:=Iq Tryz.underlying5 h1;obtain⟨c,rfl,ec⟩:=Iq Tryz.underlying5 h2;obtain⟨d',rfl,ed⟩:=Iq Tryz.underlying5 h3;obtain⟨e,rfl,ee⟩:=Iq Tryz.underlying5 h4;obtain⟨f,rfl,ef⟩:=Iq Tryz.underlying5 h5;obtain⟨g,rfl,eg⟩:=Iq Tryz.underlying5 h6;rename_i v7;obtain⟨fuel2,d2,ps2,ht⟩:=X4 Tryz.underlying25 htr (fd:={ name:= "L",type:=23,offset:=7,embedded:=false,tag:= "",pkgPath:= "",byteOffset:=8 }) (by simp);have hc:Tryz.prog.cellsOf 23=1:=by kernel_rfl
 rw[hc]at ht;have ht:DataW.trod enc Tryz.prog W 0 (fun _=>true) held fuel2 23 [v7]=some (d2,ps2):=ht;obtain⟨Z,s1,s2,_⟩:=bp (X:=X) hL0 (n:=20) hn Tryz.underlying23 (k:=aN) (by kernel_rfl) rfl h7 ht;obtain⟨s1b,s2b⟩:=MG (X:=X) hL0 (none_le _) (fun _ hi=>hi) (n:=20) (MO hn);have s3b:AH (Gp W) W (GL X.laid) ⟨.leaf,20⟩ W:=s1b.sub (H':=⟨.leaf,20⟩) (fun b o hb=>by rw[Ex]at hb;cases hb) (by rw[F9]);obtain⟨g0,hg0⟩:=hg;obtain⟨T0,hT0⟩:=Option.isSome_iff_exists.1 hg0;obtain⟨l,T1,hl,_,k3,k4,hv1⟩:=gL s3b s2b (fun b p hb=>by rw[Ex]at hb;cases hb) ⟨g0,T0,hT0⟩ Tryz.underlying23 (k:=aN) (by kernel_rfl) rfl h7 ht;refine⟨a,b,c,d',e,f,g,l,_,⟨Qr ea,Qr eb,Qr ec,Qr ed,Qr ee,Qr ef,Qr eg⟩,sr hl,k3,k4,?_⟩;refine AF.Cr.2 ⟨_,rfl,?_⟩;unfold AT at hv1;exact .cons (.int _ _) (.cons (.int _ _) (.cons (.int _ _) (.cons (.int _ _) (.cons (.int _ _) (.cons (.int _ _) (.cons (.int _ _) (.cons hv1 .nil)))))))
end
end Go.AB
