/-
  Part of the proof: the machine that runs a program by fixed orders, and that each of its runs is a run of the model; or a run of it in parts. No conditions.
-/
import Derived.Test.YtkccgiifmlhhjaaGreatDoorLk
import Derived.Test.YtkccgiifmlhhjaaGreatDoorSfb
import Derived.Test.YtkccgiifmlhhjaaGreatDoorLxb
import Derived.Test.YtkccgiifmlhhjaaGreatDoorIdTell3
import Derived.Test.YtkccgiifmlhhjaaGreatDoorInc
noncomputable section
set_option maxRecDepth 1000000
namespace Go.AD
open Go.Proofs
theorem JW.trans {H:AA} {rs ss:AW} (h:∀b∈ss,JW H rs b) {c:Nat} (hc:JW H ss c):JW H rs c:=by
 induction hc with
 | here hb=>exact h _ hb
 | next _ ho hr ih=>exact .next ih ho hr
theorem SV (b:Nat):∀n j,Cp b j n=(List.range' j n).map fun j=>Value.pointer (some ⟨b,Aa,some j⟩)
 | 0,j=>rfl
 | n+1,j=>by
  show _::Cp b (j+1) n=_;rw[SV b n (j+1),List.range'_succ];rfl
theorem Yf (b n:Nat):Cp b 0 n=Ds b n:=by
 rw[SV];unfold Ds;rw[List.range_eq_range',Dh]
theorem Told.wG {D:Nat->Prop} {Φ:Ih} {v:Value} {H:AA} {s:Pk} {b0 d:Nat} (bs:AW) {objs:BN} (hr:Bx s objs) (hx:C3 s=[]) (hb0:bs[0]? = some b0) (hA:d∈Au 4 v∨D d) (hd:JW H [d] b0) (hnd:bs.Nodup) (hreach:∀b∈bs,JW H [b0] b) (hobj:Ft bs H bs objs) (hroot:∀o T,objs[0]? = some o->¬o.void T)
 (next:∀H2:AA,(∀x,x∉bs->H2.get x=H.get x)->H2.get b0=some (.abs (.pack s) false)->Told D Φ v H2):Told D Φ v H:=by
 have hS:=E2 (s:=s) (H:=H) hnd;refine .shut s objs bs [d] hr ?_ hobj.len hnd (fun b hb=>by rw[zP]at hb;rw[hb];exact hA) (fun b hb=>JW.trans (fun x hx=>by rw[zP]at hx;rw[hx];exact hd) (hreach b hb)) (by rw[hx];exact hobj.at) hroot (next _ (fun x hx=>hS.GK x hx) (hS.root b0 hb0));rintro rfl;have:=hobj.len;rw[ABO]at this;rw[List.length_eq_zero_iff.1 this]at hb0;cases hb0
theorem cJ {b0 r a:Nat} {L:List AS} {H:AA} (hn:0 < L.length) (hn2:L.length<=34) (h:ml b0 r a L H):∃objs,Bx (.Bw L) objs/\[b0,r,a][0]? = some b0/\[b0,r,a].Nodup/\(∀b∈[b0,r,a],JW H [b0] b)/\Ft [b0,r,a] H [b0,r,a] objs/\(∀o T,objs[0]? = some o->¬o.void T):=Qz hn hn2 h
theorem eS {d a b:Nat} {s:Ab} {H:AA} (hd:FQ s) (hn:[d,a,b].Nodup) (h:[H.get d,H.get a,H.get b]=eh a b s):∃objs,Bx (.dev s) objs/\[d,a,b][0]? = some d/\[d,a,b].Nodup/\(∀x∈[d,a,b],JW H [d] x)/\Ft [d,a,b] H [d,a,b] objs/\(∀o T,objs[0]? = some o->¬o.void T):=by
 simp only[eh,zQ,AAF]at h;obtain⟨g0,g1,g2⟩:=h;refine⟨_,.dev s hd,rfl,hn,fun x hx=>?_,⟨⟨_,g0,rfl,rfl,?_⟩,⟨_,g1,rfl,rfl,by rfl⟩,⟨_,g2,rfl,rfl,by rfl⟩,trivial⟩,fun o T ho=>by cases ho;exact id⟩
 ·simp only[zl,zq,AAw]at hx;rcases hx with rfl | rfl | rfl
  ·exact .here (by simp)
  ·exact .next (.here (by simp)) g0 (by simp[IK,Au,At,ND])
  ·exact .next (.here (by simp)) g0 (by simp[IK,Au,At,ND])
 ·refine Qx ?_ ?_ _ _ _
  ·rfl
  ·rfl
theorem o5 {D:Nat->Prop} {Φ:Ih} {v:Value} {H:AA} {d c R t n:Nat} {L:List AS} {zs:AW} (hn:2<=n) (hn2:n<=32) (hL:L.length=n+2) (hz:zs.length=L.length) (hnd:(d::c::R::t::zs).Nodup) (gd:H.get d=some (ND c t n 0 false)) (gc:H.get c=some (.cells [.slice (some ⟨R,0,none⟩) (n+2) (Aa+(n+2))] 0 false))
 (gR:H.get R=some (.cells (zs.map At) 1 false)) (gt:H.get t=some (Lv (.timer none))) (gz:∀p∈zs.zip (L.map Pk.CJ),H.get p.1=some (.abs (.pack p.2) false)) (hA:d∈Au 4 v∨D d) (next:∀H2:AA,H2.get d=some (Lv (.dev ⟨L,none,n,0,false⟩))->Told D Φ v H2):Told D Φ v H:=by
 generalize hzz:zs.zip (L.map Pk.CJ)=zz at gz;have hzl:zz.map Prod.fst=zs:=by rw[<-hzz];exact List.map_fst_zip (by rw[AAK,hz];exact zA _)
 have hzs:zz.map (fun p=>some p.2)=L.map fun m=>some (.CJ m):=by
  have:zz.map Prod.snd=L.map Pk.CJ:=by rw[<-hzz];exact List.map_snd_zip (by rw[AAK,hz];exact zA _)
  rw[show(fun p:Nat × Pk=>some p.2)=some ∘ Prod.snd from rfl,<-ABN,this,ABN];rfl
 have hlen:zz.length=n+2:=by rw[<-hL,<-hz,<-hzl,AAK]
 have hzx:∀p∈zz,C3 p.2=[]:=fun p _=>rfl
 simp only[AAU,zl,ABw]at hnd;obtain⟨⟨n1,n2,n3,n4⟩,⟨n5,n6,n7⟩,⟨n8,n9⟩,n10,n11⟩:=hnd;have zne:∀p∈zz,p.1∈zs:=fun p hp=>by rw[<-hzl];exact List.mem_map.2 ⟨p,hp,rfl⟩
 have Jl:zs.map At=zz.map fun p=>Value.pointer (some ⟨p.1,0,none⟩):=by rw[<-hzl,ABN];rfl
 refine .JF R [.tok] (zs.map At) false (by rw[D9];exact gR) ?_;refine .wy R [.tok] (zs.map At) false (by rw[AA.AU,zJ rfl]) (by intro e;have:=congrArg List.length e;rw[AAK,hz,hL]at this;cases this) (by decide) v (.val (.same v)) c _ _ 0 false (by rw[AA.AU,zF n5];exact gc) (.cons (.row (n+2) _ (n+2) rfl) .nil) ?_;generalize hH1:(H.put R (.vec [.tok] (zs.map At) false)).put c (.cells [.slice (some ⟨R,0,some 0⟩) (n+2) Aa] 0 false)=H1;have get1:∀x,H1.get x=if x=c then some (.cells [.slice (some ⟨R,0,some 0⟩) (n+2) Aa] 0 false)else if x=R then some (.vec [.tok] (zs.map At) false)else H.get x:=fun x=>by rw[<-hH1,AA.AU,AA.AU]
 have next1:H1.next=H.next:=by rw[<-hH1];rfl
 have hd1:H1.get d=some (ND c t n 0 false):=by rw[get1,zF n1,zF n2];exact gd
 have hc1:H1.get c=some (.cells [.slice (some ⟨R,0,some 0⟩) (n+2) Aa] 0 false):=by rw[get1,zJ rfl]
 have hR1:H1.get R=some (.vec [.tok] (zz.map fun p=>Value.pointer (some ⟨p.1,0,none⟩)) false):=by rw[get1,zF (AAA n5),zJ rfl,Jl]
 have ht1:H1.get t=some (Lv (.timer none)):=by rw[get1,zF (AAA n6),zF (AAA n8)];exact gt
 have hz1:∀p∈zz,H1.get p.1=some (.abs (.pack p.2) false):=fun p hp=>by
  have:=zne p hp;rw[get1,zF (fun e=>n7 (by rw[<-e];exact this)),zF (fun e=>n9 (by rw[<-e];exact this))];exact gz p hp
 have rc:∀{K:AA},K.get d=some (ND c t n 0 false)->JW K [d] c:=fun g=> .next (.here (by simp)) g (by simp[IK,Au,At,ND])
 have rR:∀{K:AA},K.get d=some (ND c t n 0 false)->K.get c=some (.cells [.slice (some ⟨R,0,some 0⟩) (n+2) Aa] 0 false)->JW K [d] R:=fun g g2=> .next (rc g) g2 (by simp[IK,Au])
 refine .members R zz [d] hR1 (fun p hp=>⟨hz1 p hp,hzx p hp⟩) (by rw[hzl];exact n11) (by intro e;rw[e]at hlen;cases hlen) (fun b hb=>by rw[zP]at hb;rw[hb];exact hA) (fun p hp=> .next (rR hd1 hc1) hR1 ?_) fun hlt=>?_
 ·show p.1∈(Ag [.tok] _).flatMap (Au 4);rw[D9];exact List.mem_flatMap.2 ⟨.pointer (some ⟨p.1,0,none⟩),List.mem_map.2 ⟨p,hp,rfl⟩,by simp[Au]⟩
 have al:∀x,x < H1.next->(H1.alloc (.abs (.Bl []) false)).get x=H1.get x:=fun x hx=>by rw[AA.AM,zF (AAt hx)]
 obtain⟨k1,k2,k3,k4⟩:=QN (r:=R) zz H1.next [] (H1.alloc (.abs (.Bl []) false)) (fun x o hx=>by
  rw[AA.AM]at hx;show x < H1.next+1
  by_cases e:x=H1.next
  ·omega
  ·rw[zF e]at hx;have:=hlt _ _ hx;omega) (by rw[AA.AM,zJ rfl]) (by rw[al R (hlt _ _ hR1)];exact hR1) (fun p hp=>by rw[al _ (hlt _ _ (hz1 p hp))];exact hz1 p hp) (by rw[hzl];exact n11)
 generalize hA2:Ep R zz H1.next [] (H1.alloc (.abs (.Bl []) false))=A at k1 k2 k3 k4 ⊢;obtain⟨a,H2⟩:=A;simp only at k1 k2 k3 k4 ⊢;have hage:H1.next<=a:=by
  rcases k4 with k4 | k4
  ·omega
  ·exact AAf (ACL _) k4
 have DG:∀x o,H1.get x=some o->x≠R->x∉zs->H2.get x=some o:=fun x o hx h1 h2=>by
  have hl:=hlt _ _ hx;rw[k3 x h1 (by omega) (by rw[hzl];exact h2) (show x < H1.next+1 by omega),al x hl];exact hx
 have hd2:=DG d _ hd1 n2 n4;have hc2:=DG c _ hc1 n5 n7;have ht2:=DG t _ ht1 (AAA n8) n10;have hdl:=hlt _ _ hd1;have hcl:=hlt _ _ hc1;have hRl:=hlt _ _ hR1;have htl:=hlt _ _ ht1;have hat:ml c R a L H2:=by
  refine⟨by simp only[AAU,zl,zq,AAw,ABw,zx,AAF,not_false_eq_true];exact⟨⟨n5,by omega⟩,by omega⟩,?_,?_,?_⟩
  ·rw[hc2];unfold Uw Ao;rw[hL,Dh]
  ·rw[k1,Yf,hL];simp only[ABO,zN,hlen]
  ·rw[k2,hzs];rfl
 obtain⟨objs,q1,q2,q3,q4,q5,q6⟩:=cJ (by omega) (by omega) hat
 refine Told.wG [c,R,a] q1 rfl q2 hA (rc hd2) q3 q4 q5 q6 fun H3 h3 h4=>?_
 have hd3:H3.get d=some (ND c t n 0 false):=by rw[h3 d (by simp only[zl,zq,AAw,ABw];exact⟨n1,n2,by omega⟩)];exact hd2
 have ht3:H3.get t=some (Lv (.timer none)):=by rw[h3 t (by simp only[zl,zq,AAw,ABw];exact⟨AAA n6,AAA n8,by omega⟩)];exact ht2
 obtain⟨objs,q1,q2,q3,q4,q5,q6⟩:=eS (d:=d) (a:=c) (b:=t) (s:=⟨L,none,n,0,false⟩) (H:=H3) ⟨by show(2:Int)<=n;omega,by show(n:Int)<=32;omega,by show(L.length:Int)=n+2;omega,fun p hp=>by cases hp⟩ (by simp only[AAU,zl,zq,AAw,ABw,zx,AAF,not_false_eq_true];exact⟨⟨n1,n3⟩,n6⟩) (by rw[hd3,h4,ht3];rfl);exact Told.pO [d,c,t] q1 rfl q2 hA q3 q4 q5 q6 fun H4 _ h5=>next H4 h5
def ZV (args:AL) (objs:BN):GT:=match args,objs with
 | [.int .i64 n,.int .i64 s],[]=> .ask (2<=n/\n<=32/\1<=s/\s<=8192) (.ret ⟨.tuple ⟨[At 20,int 0]⟩,[],[.abs (.pack (.dev ⟨(nf n.toNat s).map fun a=>⟨a,0,[]⟩,none,n,0,false⟩)) false]⟩)
 | _,_=> .fail
theorem Wy {K:Prop} (hK:K):∀l:Ad,(∀a∈l,1<=a/\a<=8192)->jx K l
 | [],_=>hK
 | a::l,h=>⟨h a (AAD ..),Wy hK l fun b hb=>h b (z8 _ hb)⟩
theorem gg {K:Prop} (hK:K):∀l:AW,xx K l
 | []=>hK
 | _::l=>⟨rfl,gg hK l⟩
theorem UR (n:Nat) (s:Int):(nf n s).length=n+2:=by unfold nf;simp
theorem a8 (n:Nat):(dq n).length=n+2:=by unfold dq;simp
theorem gP (n:Nat):((Ny n+2)::24::Ny n::(Ny n+1)::dq n).Nodup:=by
 have hm:∀x∈dq n,25<=x/\x < Ny n:=fun x hx=>by
  unfold dq at hx;obtain⟨i,hi,rfl⟩:=List.mem_map.1 hx;have:=List.mem_range.1 hi;unfold Ny;omega
 have hn:(dq n).Nodup:=by
  unfold dq;rw[List.nodup_iff_pairwise_ne,List.pairwise_map];exact(List.nodup_iff_pairwise_ne.1 List.nodup_range).imp fun h e=>h (by omega)
 have h24:24 < Ny n:=by unfold Ny;omega
 simp only[AAU,zl,ABw];exact⟨⟨by omega,by omega,by omega,fun h=>by have:=hm _ h;omega⟩,⟨by omega,by omega,fun h=>by have:=hm _ h;omega⟩,⟨by omega,fun h=>by have:=hm _ h;omega⟩,fun h=>by have:=hm _ h;omega,hn⟩
theorem aT {H:AA}:∀(zs:AW) (l:Ad) (x:Option AP),zs.length=l.length->zs.map H.get++[x]=l.map (fun a=>some (.abs (.pack (.CJ ⟨a,0,[]⟩)) false))++[x]->∀p∈zs.zip ((l.map fun a=>(⟨a,0,[]⟩:AS)).map Pk.CJ),H.get p.1=some (.abs (.pack p.2) false)
 | [],[],_,_,_,p,hp=>by cases hp
 | z::zs,a::l,x,hl,h,p,hp=>by
  simp only[zb,AAm,zQ]at h;simp only[zb,List.zip_cons_cons,zl]at hp;rcases hp with rfl | hp
  ·exact h.1
  ·exact aT zs l x (by simpa using hl) h.2 p hp
 | [],_::_,_,hl,_,_,_=>by cases hl
 | _::_,[],_,hl,_,_,_=>by cases hl
theorem bw:CY Tryz.prog AI EL (Ai AI 20 [] ZV):=by
 refine BF yc.all (by kernel_rfl) (n:=BD EL) (by kernel_rfl) (by kernel_rfl) fun argsc objs x hx hro=>?_
 clear hro;unfold ZV at hx;split at hx
 ·rename_i n s;refine⟨VC (by kernel_rfl),Ak.OE ?_⟩;simp only[GT.run]at hx;split at hx
  ·rename_i h;cases hx
   obtain⟨h2,h32,hs,hs2⟩:=h;obtain⟨m,rfl⟩:∃m:Nat,n=m:=⟨n.toNat,by omega⟩
   have hm2:2<=m:=by omega
   have hm32:m<=32:=by omega
   have hv:CU XW (Ax cW) [] EL (24::Ny m::(Ny m+1)::dq m) 20 (fun v os=>v= .tuple ⟨[At (Ny m+2),int 0]⟩/\os=xY m s) 8000 (st EL [int m,int s] (hp [])):=by
    rw[fV m hm2 hm32];exact gg (Wy ⟨rfl,rfl⟩ _ fun a ha=>by
     unfold nf at ha;rcases List.mem_append.1 ha with ha | ha
     ·rw[List.mem_replicate]at ha;omega
     ·simp only[zl,zq,AAw]at ha;omega) _
   refine Ak.mono (AX.Fh (BK yc.pf (by kernel_rfl) hv)) fun v H ⟨e,hq⟩=>?_
   subst e;have hq:H.get 24::H.get (Ny m)::H.get (Ny m+1)::((dq m++[Ny m+2]).map H.get)=xY m s:=hq;unfold xY at hq;rw[ABq]at hq;simp only[zQ]at hq;obtain⟨g1,g2,g3,g4⟩:=hq;have gl:H.get (Ny m+2)=some (ND 24 (Ny m+1) m 0 false):=by
    have:=congrArg List.getLast? g4;simpa using this
   have g5:(dq m).map H.get++[some (ND 24 (Ny m+1) m 0 false)]=(nf m s).map (fun a=>some (.abs (.pack (.CJ ⟨a,0,[]⟩)) false))++[some (ND 24 (Ny m+1) m 0 false)]:=by
    rw[<-g4,<-gl];rfl
   refine o5 (d:=Ny m+2) (c:=24) (R:=Ny m) (t:=Ny m+1) (n:=m) (L:=(nf m s).map fun a=>⟨a,0,[]⟩) (zs:=dq m) hm2 hm32 (by rw[AAK,UR]) (by rw[AAK,UR,a8]) (gP m) gl g1 g2 g3 (aT _ _ _ (by rw[UR,a8]) g5) (.inl (by simp[Au,At])) fun H2 g=> .here ?_
   refine⟨[Ny m+2],by simp,fun b hb=>by rw[zP]at hb;rw[hb];show 20+0<=_;unfold Ny;omega,rfl,rfl,fun j b o hb ho=>?_,fun j o hj=>(by cases hj)⟩;cases j with
   | zero=>cases hb;cases ho;exact⟨_,rfl,g⟩
   | succ j=>cases hb
  ·cases hx
 ·cases hx
def jR (args:AL) (objs:BN):GT:=match args,objs with
 | [.agg ⟨[.int .i64 k,.int .i64 q,.string a,.string b]⟩,.int .i64 s,.int .i64 o],[]=> .ask (L6 k q a b s o=true) (.ret ⟨.tuple ⟨[G6 q a (k==2) s o (Bu a b),int 0]⟩,[],[]⟩)
 | _,_=> .fail
def jo (args:AL) (objs:BN):GT:=match args,objs with
 | [.agg ⟨[.int .i64 k,.int .i64 q,.string a,.string b]⟩],[]=> .ask (DR k q a b=true) (.ret ⟨.tuple ⟨[Ao 20 (Bu a b),int 0]⟩,[],[.vec kB (E3 k q a b) false]⟩)
 | _,_=> .fail
theorem cj:∀a o x,(jR a o).run=some x->(TX a o).run=some x:=by
 intro a o x hx;unfold jR at hx;unfold TX;split at hx
 ·simp only[GT.run]at hx ⊢;split at hx
  ·rename_i h;rw[h];exact hx
  ·cases hx
 ·cases hx
theorem dV:∀a o x,(jo a o).run=some x->(VV a o).run=some x:=by
 intro a o x hx;unfold jo at hx;unfold VV;split at hx
 ·simp only[GT.run]at hx ⊢;split at hx
  ·rename_i h;rw[h];exact hx
  ·cases hx
 ·cases hx
def iT:Gk:=fun p rest os=>match p,rest,os with
 | .dev d,[.int .i64 i],[]=> .ask ((De d i).1=0) (.ret ⟨int 0,.dev (De d i).2,[]⟩)
 | _,_,_=> .fail
theorem dU:∀a o x,(CX 20 iT a o).run=some x->(CX 20 (TB Cn fun _=>false) a o).run=some x:=IU fun s rest os x hx=>by
 unfold iT at hx;unfold TB;split at hx
 ·rename_i d i;simp only[PT.gt,GT.run]at hx ⊢;split at hx
  ·rename_i h;show some _=some _;unfold De at hx h;rw[h];exact hx
  ·cases hx
 ·simp only[PT.gt,GT.run]at hx;cases hx
def Ur:List GA:=[GQ EL [] ZV,(Cy,Ai AI 20 [] TX,Cs AI 20 [] jR),(CS,Ai AI 20 [] VV,Cs AI 20 [] jo),
 (DQ,Ai AI 20 [true] (CX 20 (HK fun m=>m.b.length)),Cs AI 20 [true] (CX 20 oa)),GQ By [true] (CX 20 Pv),
 (CI,Ai AI 20 [true] (CX 20 (TB Cn fun _=>false)),Cs AI 20 [true] (CX 20 iT))]
theorem dr:Ci Ur:= .cons bw <| .OG Ve cj <| .OG fe dV <| .OG Sz Ws <| .cons Sl <| .OG RE dU .nil
abbrev UQ:Ctx:=Bp Tryz.prog AI (Cv Ur)
abbrev JQ:EK:=[.int .u8,.int .u8,.int .u8,.bool,.bool]
abbrev B2:=Int × Int × Int × Bool × Bool
def Il (fn:FuncId) (i:Nat) (c:BT):Bool:=match c with
 | ⟨⟨f,_,_,.code (.seq (.region j _ _) _)::_,_,r,_,_⟩,cs,_⟩=> !r&&Nat.beq f fn&&Nat.beq cs.length 0&&Nat.beq j i
 | _=>false
def No:Stop:=⟨AF,0,3,21,[20],[3,5,29,30,31]⟩
def mJ:Stop:=⟨AF,0,3,21,[20],[3,5,6,7,29,30,31]⟩
def uV:Stop:=⟨AF,0,3,21,[20],[3,5,7,8,9,29,30,31]⟩
def xr (z:Nat) (L:Nat->Aw) (u:Nat->Int):AP:= .cells [At 21,Ao z (L 0).length,Ao (z+1) (L 1).length,Ao (z+2) (L 2).length,Ao (z+3) (L 3).length,Ao (z+4) (L 4).length,int (u 0),int (u 1),int (u 2),int (u 3),int (u 4)] 0 false
def Xj (L:Nat->Aw):BN:=[.vec Ah (L 0) false,.vec Ah (L 1) false,.vec Ah (L 2) false,.vec Ah (L 3) false,.vec Ah (L 4) false]
def Tu:List B9:=[.inLoop (A9 Tryz.prog AF [1,1,1,1,0,1,0,0]),.inBlock 0,.code (A9 Tryz.prog AF [1,1,1,1,1])]
def vU (p q:AW):List B9:= .code (A9 Tryz.prog AF p):: .code (A9 Tryz.prog AF q):: .inBlock 1:: .code (A9 Tryz.prog AF [1,1,1,1,0,1,0,0,1,1,1])::Tu
def pC (a b c:Int) (e f:Bool):AP:= .cells [.int .u8 a,.int .u8 b,.int .u8 c,.bool e,.bool f] 0 false
def jl (d:Ab) (L:Nat->Aw) (u:Nat->Int) (l:List B2) (k:Nat) (i:Int):BT:=
 ⟨⟨AF,EZ [(3,At 21),(5,At 22),(29,Ao 20 k),(30,int k),(31,int i)],BD AF,.code (A9 Tryz.prog AF [1,1,1,1,0,1,0,0])::Tu,[],false,.normal,none⟩,[],
  hp ([.vec JQ l true,.abs (.pack (.dev d)) false,xr 23 L u]++Xj L)⟩
def vz (d:Ab) (L:Nat->Aw) (u:Nat->Int) (l:List B2) (k:Nat) (i:Int) (a b c:Int) (e f:Bool):BT:=
 ⟨⟨AF,EZ [(3,At 21),(5,At 22),(6,int i),(7,At 23),(29,Ao 20 k),(30,int k),(31,int i)],BD AF,vU [1,1,1,1,0,1,0,0,1,1,0,0,1,0] [1,1,1,1,0,1,0,0,1,1,0,0,1,1],[],false,.normal,none⟩,[],
  hp ([.vec JQ l true,.abs (.pack (.dev d)) false,xr 24 L u,pC a b c e f]++Xj L)⟩
def TW (d:Ab) (L:Nat->Aw) (u:Nat->Int) (l:List B2) (k:Nat) (i:Int) (a b c:Int) (e f:Bool) (s kd q:Int) (ky vl:As):BT:=
 ⟨⟨AF,EZ [(3,At 21),(5,At 22),(7,At 23),(8,At 24),(9,int s),(29,Ao 20 k),(30,int k),(31,int i)],BD AF,vU [1,1,1,1,0,1,0,0,1,1,0,0,1,1,1,1,0] [1,1,1,1,0,1,0,0,1,1,0,0,1,1,1,1,1],[],false,.normal,none⟩,[],
  hp ([.vec JQ l true,.abs (.pack (.dev d)) false,xr 25 L u,pC a b c e f,.cells [int kd,int q,.string ky,.string vl] 0 false]++Xj L)⟩
theorem uT (d:Ab) (L:Nat->Aw) (u:Nat->Int) (l:List B2) (k:Nat) (i:Int) (Q:Bm) (R R2:Bz):NH UQ (Ax Ur) [] AF [20] No (fun c=>No.here c) mJ (fun c=>Il AF 8 c) [] Q R R2 900 (jl d L u l k i)=(
 let a:=List.getD l (0+i.toNat) (EK.BL JQ);(bif decide (i < (k:Int))then(bif decide (0<=i)&&Nat.blt i.toNat k then(bif Nat.blt (0+i.toNat) l.length then(R2 (vz d L u l k i a.1 a.2.1 a.2.2.1 a.2.2.2.1 a.2.2.2.2))else False)else False)else(Q (At 22) [some (.vec JQ l true),some (.cells [(At 21),(Ao 23 (L 0).length),(Ao 24 (L 1).length),(Ao 25 (L 2).length),(Ao 26 (L 3).length),(Ao 27 (L 4).length),(int (u 0)),(int (u 1)),(int (u 2)),(int (u 3)),(int (u 4))] 0 false)]))):=by kernel_rfl
theorem sM (d:Ab) (L:Nat->Aw) (u:Nat->Int) (l:List B2) (k:Nat) (i:Int) (a b c:Int) (e f:Bool) (Q:Bm) (R R2:Bz):NH UQ (Ax Ur) [] AF [20] No (fun c=>No.here c) uV (fun c=>Il AF 12 c) [] Q R R2 900 (vz d L u l k i a b c e f)=(
 let O:Value:= .string ({ data:=#[97] });let N:Value:= .string ({ data:=#[98] });let M:Value:= .int IntKind.u8 (Int.tmod b 4);let K:Value:= .pointer (some ⟨23,1,none⟩);let J:Value:= .string ({ data:=#[122,45,57] });let I:Value:= .string ({ data:=#[107,101,121,46,50] });let H:=((At 29):Value);let G:=Int.tmod c 40<=Int.tmod c 40;let F:=Int.tmod c 40<=140737488355328;let y:Value:= .pointer (some ⟨29,1,none⟩);let x:Value:= .pointer (some ⟨29,2,none⟩);let w:Value:= .pointer (some ⟨29,3,none⟩);let v:=Int.tmod c 40;let r:=((int i):Value)=(int i);let p:=List.replicate v.toNat (0:Int);let o:=((.int IntKind.u8 b):Value)=(.int IntKind.u8 b);let n:=IntKind.wrap .i64 (Int.tmod a 5);let m:=(M:Value)=M;let j:=(K:Value)=K;let h:=Fy (List.take v.toNat (List.drop 0 p));let g:=IntKind.wrap .i64 (i+1);let E:Prop:=R2 (TW d L u l k i a b c e f n 1 g ({ data:=#[97] }) h);let D:Prop:=R2 (TW d L u l k i a b c e f n 1 g ({ data:=#[98] }) h);let C:Prop:=R2 (TW d L u l k i a b c e f n 1 g ({ data:=#[122,45,57] }) h);let B:Prop:=R2 (TW d L u l k i a b c e f n 2 g ({ data:=#[97] }) ({ data:=#[] }));let A:Prop:=R2 (TW d L u l k i a b c e f n 2 g ({ data:=#[98] }) ({ data:=#[] }));let z:Prop:=R2 (TW d L u l k i a b c e f n 1 g ({ data:=#[107,101,121,46,50] }) h);let t:Prop:=R2 (TW d L u l k i a b c e f n 2 g ({ data:=#[122,45,57] }) ({ data:=#[] }));let s:Prop:=R2 (TW d L u l k i a b c e f n 2 g ({ data:=#[107,101,121,46,50] }) ({ data:=#[] }));let q:=((int g):Value)=(int g);(bif Int.tmod b 4==3 then(bif decide (0<=Int.tmod c 40)&&decide G&&decide F then((J:Value)=J)/\(bif Int.tmod b 4==3 then((w:Value)=w)/\m/\o/\j/\q/\r/\(bif Nat.ble (0+v.toNat) p.length then(bif e then t else C)else False)else(bif Int.tmod b 4==2 then((x:Value)=w)/\m/\o/\j/\q/\r/\(bif Nat.ble (0+v.toNat) p.length then(bif e then t else C)else False)else(bif Int.tmod b 4==1 then((y:Value)=w)/\m/\o/\j/\q/\r/\(bif Nat.ble (0+v.toNat) p.length then(bif e then t else C)else False)else(bif Int.tmod b 4==0 then(H=w)/\m/\o/\j/\q/\r/\(bif Nat.ble (0+v.toNat) p.length then(bif e then t else C)else False)else False))))else False)else(bif Int.tmod b 4==2 then(bif decide (0<=Int.tmod c 40)&&decide G&&decide F then((I:Value)=I)/\(bif Int.tmod b 4==3 then((w:Value)=x)/\m/\o/\j/\q/\r/\(bif Nat.ble (0+v.toNat) p.length then(bif e then s else z)else False)else(bif Int.tmod b 4==2 then((x:Value)=x)/\m/\o/\j/\q/\r/\(bif Nat.ble (0+v.toNat) p.length then(bif e then s else z)else False)else(bif Int.tmod b 4==1 then((y:Value)=x)/\m/\o/\j/\q/\r/\(bif Nat.ble (0+v.toNat) p.length then(bif e then s else z)else False)else(bif Int.tmod b 4==0 then(H=x)/\m/\o/\j/\q/\r/\(bif Nat.ble (0+v.toNat) p.length then(bif e then s else z)else False)else False))))else False)else(bif Int.tmod b 4==1 then(bif decide (0<=Int.tmod c 40)&&decide G&&decide F then((N:Value)=N)/\(bif Int.tmod b 4==3 then((w:Value)=y)/\m/\o/\j/\q/\r/\(bif Nat.ble (0+v.toNat) p.length then(bif e then A else D)else False)else(bif Int.tmod b 4==2 then((x:Value)=y)/\m/\o/\j/\q/\r/\(bif Nat.ble (0+v.toNat) p.length then(bif e then A else D)else False)else(bif Int.tmod b 4==1 then((y:Value)=y)/\m/\o/\j/\q/\r/\(bif Nat.ble (0+v.toNat) p.length then(bif e then A else D)else False)else(bif Int.tmod b 4==0 then(H=y)/\m/\o/\j/\q/\r/\(bif Nat.ble (0+v.toNat) p.length then(bif e then A else D)else False)else False))))else False)else(bif Int.tmod b 4==0 then(bif decide (0<=Int.tmod c 40)&&decide G&&decide F then((O:Value)=O)/\(bif Int.tmod b 4==3 then((w:Value)=(At 29))/\m/\o/\j/\q/\r/\(bif Nat.ble (0+v.toNat) p.length then(bif e then B else E)else False)else(bif Int.tmod b 4==2 then((x:Value)=(At 29))/\m/\o/\j/\q/\r/\(bif Nat.ble (0+v.toNat) p.length then(bif e then B else E)else False)else(bif Int.tmod b 4==1 then((y:Value)=(At 29))/\m/\o/\j/\q/\r/\(bif Nat.ble (0+v.toNat) p.length then(bif e then B else E)else False)else(bif Int.tmod b 4==0 then(H=(At 29))/\m/\o/\j/\q/\r/\(bif Nat.ble (0+v.toNat) p.length then(bif e then B else E)else False)else False))))else False)else False))))):=by kernel_rfl
def Xa (o:AP) (n0 n1 n2 n3 n4:Nat) (L0 L1 L2 L3 L4:Aw) (u0 u1 u2 u3 u4:Int) (l:List B2) (k:Nat) (i:Int):BT:=
 ⟨⟨AF,EZ [(3,At 21),(5,At 22),(29,Ao 20 k),(30,int k),(31,int i)],BD AF,.code (A9 Tryz.prog AF [1,1,1,1,0,1,0,0])::Tu,[],false,.normal,none⟩,[],
  hp [.vec JQ l true,o,.cells [At 21,Ao 23 n0,Ao 24 n1,Ao 25 n2,Ao 26 n3,Ao 27 n4,int u0,int u1,int u2,int u3,int u4] 0 false,.vec Ah L0 false,.vec Ah L1 false,.vec Ah L2 false,.vec Ah L3 false,.vec Ah L4 false]⟩
theorem tn (d:Ab) (L:Nat->Aw) (u:Nat->Int) (l:List B2) (k:Nat) (i:Int) (a b c:Int) (e f:Bool) (kd q:Int) (ky vl:As) (Q:Bm) (R:Bz):Iy UQ (Ax Ur) [] AF [20] No [] Q R 900 (TW d L u l k i a b c e f 0 kd q ky vl)=(
 let p:Value:= .pointer (some ⟨22,1,none⟩);let o:=((At 22):Value)=(At 22);let n:=(L 0).length+1;let m:=IntKind.wrap .i64 (i+1);let h:=List.take (L 0).length (List.drop 0 (L 0))++[(q,ky,kd==2,0,A8 d 0,((Bu ky vl):Int))];let g:=DX d 0 (List.take (Bu ky vl) (E3 kd q ky vl));let j:AP:= .abs (Ct.pack (PL.nx { v:=int g.1,nx:=Pk.dev g.2,news:=[] })) false;((Bool.rec false (J6 vl 512==0) ((kd==1||kd==2&&Jf vl)&& !decide (q < 1)&& !decide (q > 1099511627776)&&I1 ky==0))=(true))/\(Ab.down d=false/\Ba (Ab.BB d) 0=false)/\((Bool.rec false (!decide (A8 d 0 > 8192)) (DR kd q ky vl&& !decide (0 < 0)&& !decide (0≥32)&& !decide (A8 d 0 < 0)))=(true))/\(Bu ky vl<=(E3 kd q ky vl).length)/\(bif g.1 != 0 then(R (Xa j (L 0).length (L 1).length (L 2).length (L 3).length (L 4).length (L 0) (L 1) (L 2) (L 3) (L 4) (u 0) (u 1) (u 2) (u 3) (u 4) l k m))else(bif true&&Nat.ble (0+(L 0).length) (L 0).length&&BQ 56 n then((p:Value)=p)/\o/\(((int 0):Value)=(int 0))/\o/\(bif f then(((De g.2 0).1)=(0))/\(R (Xa (.abs (Ct.pack (PL.nx { v:=int 0,nx:=Pk.dev (De g.2 0).2,news:=[] })) false) n (L 1).length (L 2).length (L 3).length (L 4).length h (L 1) (L 2) (L 3) (L 4) (Int.ofNat n) (u 1) (u 2) (u 3) (u 4) l k m))else(R (Xa j n (L 1).length (L 2).length (L 3).length (L 4).length h (L 1) (L 2) (L 3) (L 4) (u 0) (u 1) (u 2) (u 3) (u 4) l k m)))else False))):=by kernel_rfl
theorem rz (d:Ab) (L:Nat->Aw) (u:Nat->Int) (l:List B2) (k:Nat) (i:Int) (a b c:Int) (e f:Bool) (kd q:Int) (ky vl:As) (Q:Bm) (R:Bz):Iy UQ (Ax Ur) [] AF [20] No [] Q R 900 (TW d L u l k i a b c e f 1 kd q ky vl)=(
 let p:Value:= .pointer (some ⟨22,1,none⟩);let o:=((At 22):Value)=(At 22);let n:=(L 1).length+1;let m:=IntKind.wrap .i64 (i+1);let h:=List.take (L 1).length (List.drop 0 (L 1))++[(q,ky,kd==2,1,A8 d 1,((Bu ky vl):Int))];let g:=DX d 1 (List.take (Bu ky vl) (E3 kd q ky vl));let j:AP:= .abs (Ct.pack (PL.nx { v:=int g.1,nx:=Pk.dev g.2,news:=[] })) false;((Bool.rec false (J6 vl 512==0) ((kd==1||kd==2&&Jf vl)&& !decide (q < 1)&& !decide (q > 1099511627776)&&I1 ky==0))=(true))/\(Ab.down d=false/\Ba (Ab.BB d) 1=false)/\((Bool.rec false (!decide (A8 d 1 > 8192)) (DR kd q ky vl&& !decide (1 < 0)&& !decide (1≥32)&& !decide (A8 d 1 < 0)))=(true))/\(Bu ky vl<=(E3 kd q ky vl).length)/\(bif g.1 != 0 then(R (Xa j (L 0).length (L 1).length (L 2).length (L 3).length (L 4).length (L 0) (L 1) (L 2) (L 3) (L 4) (u 0) (u 1) (u 2) (u 3) (u 4) l k m))else(bif true&&Nat.ble (0+(L 1).length) (L 1).length&&BQ 56 n then((p:Value)=p)/\o/\(((int 1):Value)=(int 1))/\o/\(bif f then(((De g.2 1).1)=(0))/\(R (Xa (.abs (Ct.pack (PL.nx { v:=int 0,nx:=Pk.dev (De g.2 1).2,news:=[] })) false) (L 0).length n (L 2).length (L 3).length (L 4).length (L 0) h (L 2) (L 3) (L 4) (u 0) (Int.ofNat n) (u 2) (u 3) (u 4) l k m))else(R (Xa j (L 0).length n (L 2).length (L 3).length (L 4).length (L 0) h (L 2) (L 3) (L 4) (u 0) (u 1) (u 2) (u 3) (u 4) l k m)))else False))):=by kernel_rfl
theorem qw (d:Ab) (L:Nat->Aw) (u:Nat->Int) (l:List B2) (k:Nat) (i:Int) (a b c:Int) (e f:Bool) (kd q:Int) (ky vl:As) (Q:Bm) (R:Bz):Iy UQ (Ax Ur) [] AF [20] No [] Q R 900 (TW d L u l k i a b c e f 2 kd q ky vl)=(
 let p:Value:= .pointer (some ⟨22,1,none⟩);let o:=((At 22):Value)=(At 22);let n:=(L 2).length+1;let m:=IntKind.wrap .i64 (i+1);let h:=List.take (L 2).length (List.drop 0 (L 2))++[(q,ky,kd==2,2,A8 d 2,((Bu ky vl):Int))];let g:=DX d 2 (List.take (Bu ky vl) (E3 kd q ky vl));let j:AP:= .abs (Ct.pack (PL.nx { v:=int g.1,nx:=Pk.dev g.2,news:=[] })) false;((Bool.rec false (J6 vl 512==0) ((kd==1||kd==2&&Jf vl)&& !decide (q < 1)&& !decide (q > 1099511627776)&&I1 ky==0))=(true))/\(Ab.down d=false/\Ba (Ab.BB d) 2=false)/\((Bool.rec false (!decide (A8 d 2 > 8192)) (DR kd q ky vl&& !decide (2 < 0)&& !decide (2≥32)&& !decide (A8 d 2 < 0)))=(true))/\(Bu ky vl<=(E3 kd q ky vl).length)/\(bif g.1 != 0 then(R (Xa j (L 0).length (L 1).length (L 2).length (L 3).length (L 4).length (L 0) (L 1) (L 2) (L 3) (L 4) (u 0) (u 1) (u 2) (u 3) (u 4) l k m))else(bif true&&Nat.ble (0+(L 2).length) (L 2).length&&BQ 56 n then((p:Value)=p)/\o/\(((int 2):Value)=(int 2))/\o/\(bif f then(((De g.2 2).1)=(0))/\(R (Xa (.abs (Ct.pack (PL.nx { v:=int 0,nx:=Pk.dev (De g.2 2).2,news:=[] })) false) (L 0).length (L 1).length n (L 3).length (L 4).length (L 0) (L 1) h (L 3) (L 4) (u 0) (u 1) (Int.ofNat n) (u 3) (u 4) l k m))else(R (Xa j (L 0).length (L 1).length n (L 3).length (L 4).length (L 0) (L 1) h (L 3) (L 4) (u 0) (u 1) (u 2) (u 3) (u 4) l k m)))else False))):=by kernel_rfl
theorem tv (d:Ab) (L:Nat->Aw) (u:Nat->Int) (l:List B2) (k:Nat) (i:Int) (a b c:Int) (e f:Bool) (kd q:Int) (ky vl:As) (Q:Bm) (R:Bz):Iy UQ (Ax Ur) [] AF [20] No [] Q R 900 (TW d L u l k i a b c e f 3 kd q ky vl)=(
 let p:Value:= .pointer (some ⟨22,1,none⟩);let o:=((At 22):Value)=(At 22);let n:=(L 3).length+1;let m:=IntKind.wrap .i64 (i+1);let h:=List.take (L 3).length (List.drop 0 (L 3))++[(q,ky,kd==2,3,A8 d 3,((Bu ky vl):Int))];let g:=DX d 3 (List.take (Bu ky vl) (E3 kd q ky vl));let j:AP:= .abs (Ct.pack (PL.nx { v:=int g.1,nx:=Pk.dev g.2,news:=[] })) false;((Bool.rec false (J6 vl 512==0) ((kd==1||kd==2&&Jf vl)&& !decide (q < 1)&& !decide (q > 1099511627776)&&I1 ky==0))=(true))/\(Ab.down d=false/\Ba (Ab.BB d) 3=false)/\((Bool.rec false (!decide (A8 d 3 > 8192)) (DR kd q ky vl&& !decide (3 < 0)&& !decide (3≥32)&& !decide (A8 d 3 < 0)))=(true))/\(Bu ky vl<=(E3 kd q ky vl).length)/\(bif g.1 != 0 then(R (Xa j (L 0).length (L 1).length (L 2).length (L 3).length (L 4).length (L 0) (L 1) (L 2) (L 3) (L 4) (u 0) (u 1) (u 2) (u 3) (u 4) l k m))else(bif true&&Nat.ble (0+(L 3).length) (L 3).length&&BQ 56 n then((p:Value)=p)/\o/\(((int 3):Value)=(int 3))/\o/\(bif f then(((De g.2 3).1)=(0))/\(R (Xa (.abs (Ct.pack (PL.nx { v:=int 0,nx:=Pk.dev (De g.2 3).2,news:=[] })) false) (L 0).length (L 1).length (L 2).length n (L 4).length (L 0) (L 1) (L 2) h (L 4) (u 0) (u 1) (u 2) (Int.ofNat n) (u 4) l k m))else(R (Xa j (L 0).length (L 1).length (L 2).length n (L 4).length (L 0) (L 1) (L 2) h (L 4) (u 0) (u 1) (u 2) (u 3) (u 4) l k m)))else False))):=by kernel_rfl
theorem uH (d:Ab) (L:Nat->Aw) (u:Nat->Int) (l:List B2) (k:Nat) (i:Int) (a b c:Int) (e f:Bool) (kd q:Int) (ky vl:As) (Q:Bm) (R:Bz):Iy UQ (Ax Ur) [] AF [20] No [] Q R 900 (TW d L u l k i a b c e f 4 kd q ky vl)=(
 let p:Value:= .pointer (some ⟨22,1,none⟩);let o:=((At 22):Value)=(At 22);let n:=(L 4).length+1;let m:=IntKind.wrap .i64 (i+1);let h:=List.take (L 4).length (List.drop 0 (L 4))++[(q,ky,kd==2,4,A8 d 4,((Bu ky vl):Int))];let g:=DX d 4 (List.take (Bu ky vl) (E3 kd q ky vl));let j:AP:= .abs (Ct.pack (PL.nx { v:=int g.1,nx:=Pk.dev g.2,news:=[] })) false;((Bool.rec false (J6 vl 512==0) ((kd==1||kd==2&&Jf vl)&& !decide (q < 1)&& !decide (q > 1099511627776)&&I1 ky==0))=(true))/\(Ab.down d=false/\Ba (Ab.BB d) 4=false)/\((Bool.rec false (!decide (A8 d 4 > 8192)) (DR kd q ky vl&& !decide (4 < 0)&& !decide (4≥32)&& !decide (A8 d 4 < 0)))=(true))/\(Bu ky vl<=(E3 kd q ky vl).length)/\(bif g.1 != 0 then(R (Xa j (L 0).length (L 1).length (L 2).length (L 3).length (L 4).length (L 0) (L 1) (L 2) (L 3) (L 4) (u 0) (u 1) (u 2) (u 3) (u 4) l k m))else(bif true&&Nat.ble (0+(L 4).length) (L 4).length&&BQ 56 n then((p:Value)=p)/\o/\(((int 4):Value)=(int 4))/\o/\(bif f then(((De g.2 4).1)=(0))/\(R (Xa (.abs (Ct.pack (PL.nx { v:=int 0,nx:=Pk.dev (De g.2 4).2,news:=[] })) false) (L 0).length (L 1).length (L 2).length (L 3).length n (L 0) (L 1) (L 2) (L 3) h (u 0) (u 1) (u 2) (u 3) (Int.ofNat n) l k m))else(R (Xa j (L 0).length (L 1).length (L 2).length (L 3).length n (L 0) (L 1) (L 2) (L 3) h (u 0) (u 1) (u 2) (u 3) (u 4) l k m)))else False))):=by kernel_rfl
def GR {α:Type} (L:Nat->α) (s:Nat) (x:α):Nat->α:=fun i=>bif Nat.beq i s then x else L i
structure PF where
 d:Ab
 L:Nat->Aw
 u:Nat->Int
def EF (st:PF) (s:Nat) (f:Bool) (kd q:Int) (ky vl:As):PF:=
 bif (DX st.d (s:Int) (E3 kd q ky vl)).1 != 0 then⟨(DX st.d (s:Int) (E3 kd q ky vl)).2,st.L,st.u⟩else
 bif f then⟨(De (DX st.d (s:Int) (E3 kd q ky vl)).2 (s:Int)).2,GR st.L s (st.L s++[(q,ky,kd==2,(s:Int),A8 st.d (s:Int),((Bu ky vl:Nat):Int))]),GR st.u s (Int.ofNat (st.L s++[(q,ky,kd==2,(s:Int),A8 st.d (s:Int),((Bu ky vl:Nat):Int))]).length)⟩
 else⟨(DX st.d (s:Int) (E3 kd q ky vl)).2,GR st.L s (st.L s++[(q,ky,kd==2,(s:Int),A8 st.d (s:Int),((Bu ky vl:Nat):Int))]),st.u⟩
structure P7 (st:PF) (s:Nat) (f:Bool) (kd q:Int) (ky vl:As):Prop where
 ok:DR kd q ky vl=true
 dn:st.d.down=false
 bad:Ba st.d.BB (s:Int)=false
 GQ:L6 kd q ky vl (s:Int) (A8 st.d (s:Int))=true
 y4:((DX st.d (s:Int) (E3 kd q ky vl)).1 != 0)=false->f=true->(De (DX st.d (s:Int) (E3 kd q ky vl)).2 (s:Int)).1=0
 ln:(st.L s).length < 1000
theorem NW (A B:Bool) (h:(A&&B)=true):(Bool.rec (motive:=fun _=>Bool) false B A)=true:=by
 cases A<;>exact h
theorem KI (A B:Bool) (h:(A&&B)=true):(Bool.rec (motive:=fun _=>Bool) false B A)=true:=by
 cases A<;>exact h
theorem F0 (d:Ab) (L:Nat->Aw) (u:Nat->Int) (l:List B2) (k:Nat) (i:Int):Xa (.abs (.pack (.dev d)) false) (L 0).length (L 1).length (L 2).length (L 3).length (L 4).length (L 0) (L 1) (L 2) (L 3) (L 4) (u 0) (u 1) (u 2) (u 3) (u 4) l k i=jl d L u l k i:=by kernel_rfl
theorem mv {st:PF} {l:List B2} {k i:Nat} {a b c:Int} {e f:Bool} {kd q:Int} {ky vl:As} (h:P7 st 0 f kd q ky vl) (hi:i < 1000):Iy UQ (Ax Ur) [] AF [20] No [] (fun _ _=>False) (fun c=>c=jl (EF st 0 f kd q ky vl).d (EF st 0 f kd q ky vl).L (EF st 0 f kd q ky vl).u l k ((i+1:Nat):Int)) 900 (TW st.d st.L st.u l k (i:Nat) a b c e f (((0:Nat)):Int) kd q ky vl):=by
 have hw:IntKind.wrap .i64 ((i:Int)+1)=((i+1:Nat):Int):=by rw[wrap64 (by omega) (by omega)];rfl
 have hz:(((0:Nat)):Int)=0:=rfl;obtain⟨h1,h2,h3,h4,h5,h6⟩:=h;obtain⟨d,L,u⟩:=st
 change (L 0).length < 1000 at h6
 rw[hz]at h3 h4 h5 ⊢;rw[tn];(conv=>zeta);rw[hw]
 have et:List.take (Bu ky vl) (E3 kd q ky vl)=E3 kd q ky vl:=zI (by rw[E9];exact zA _);have eL:List.take (L 0).length (List.drop 0 (L 0))=L 0:=by rw[zc,zI (zA _)]
 rw[et,eL];refine⟨NW _ _ h1,⟨h2,h3⟩,KI _ _ h4,by rw[E9];exact zA _,?_⟩;have hc:(true&&Nat.ble (0+(L 0).length) (L 0).length&&BQ 56 ((L 0).length+1))=true:=by
  rw[zN,y7 (zA _),Lu (by omega)];rfl
 have hlen:(L 0).length+1=(L 0++[(q,ky,kd==2,0,A8 d 0,((Bu ky vl:Nat):Int))]).length:=by rw[zM];rfl
 unfold EF;rw[hz];refine BX (fun c1=>?_) fun c1=>AB hc ⟨rfl,rfl,rfl,rfl,BX (fun c2=>⟨h5 c1 c2,?_⟩) fun c2=>?_⟩
 ·rw[c1];exact F0 _ L u l k _
 ·rw[c1,c2,hlen];exact F0 _ (GR L 0 _) (GR u 0 _) l k _
 ·rw[c1,c2,hlen];exact F0 _ (GR L 0 _) u l k _
theorem mL {st:PF} {l:List B2} {k i:Nat} {a b c:Int} {e f:Bool} {kd q:Int} {ky vl:As} (h:P7 st 1 f kd q ky vl) (hi:i < 1000):Iy UQ (Ax Ur) [] AF [20] No [] (fun _ _=>False) (fun c=>c=jl (EF st 1 f kd q ky vl).d (EF st 1 f kd q ky vl).L (EF st 1 f kd q ky vl).u l k ((i+1:Nat):Int)) 900 (TW st.d st.L st.u l k (i:Nat) a b c e f (((1:Nat)):Int) kd q ky vl):=by
 have hw:IntKind.wrap .i64 ((i:Int)+1)=((i+1:Nat):Int):=by rw[wrap64 (by omega) (by omega)];rfl
 have hz:(((1:Nat)):Int)=1:=rfl;obtain⟨h1,h2,h3,h4,h5,h6⟩:=h;obtain⟨d,L,u⟩:=st
 change (L 1).length < 1000 at h6
 rw[hz]at h3 h4 h5 ⊢;rw[rz];(conv=>zeta);rw[hw]
 have et:List.take (Bu ky vl) (E3 kd q ky vl)=E3 kd q ky vl:=zI (by rw[E9];exact zA _);have eL:List.take (L 1).length (List.drop 0 (L 1))=L 1:=by rw[zc,zI (zA _)]
 rw[et,eL];refine⟨NW _ _ h1,⟨h2,h3⟩,KI _ _ h4,by rw[E9];exact zA _,?_⟩;have hc:(true&&Nat.ble (0+(L 1).length) (L 1).length&&BQ 56 ((L 1).length+1))=true:=by
  rw[zN,y7 (zA _),Lu (by omega)];rfl
 have hlen:(L 1).length+1=(L 1++[(q,ky,kd==2,1,A8 d 1,((Bu ky vl:Nat):Int))]).length:=by rw[zM];rfl
 unfold EF;rw[hz];refine BX (fun c1=>?_) fun c1=>AB hc ⟨rfl,rfl,rfl,rfl,BX (fun c2=>⟨h5 c1 c2,?_⟩) fun c2=>?_⟩
 ·rw[c1];exact F0 _ L u l k _
 ·rw[c1,c2,hlen];exact F0 _ (GR L 1 _) (GR u 1 _) l k _
 ·rw[c1,c2,hlen];exact F0 _ (GR L 1 _) u l k _
theorem oT {st:PF} {l:List B2} {k i:Nat} {a b c:Int} {e f:Bool} {kd q:Int} {ky vl:As} (h:P7 st 2 f kd q ky vl) (hi:i < 1000):Iy UQ (Ax Ur) [] AF [20] No [] (fun _ _=>False) (fun c=>c=jl (EF st 2 f kd q ky vl).d (EF st 2 f kd q ky vl).L (EF st 2 f kd q ky vl).u l k ((i+1:Nat):Int)) 900 (TW st.d st.L st.u l k (i:Nat) a b c e f (((2:Nat)):Int) kd q ky vl):=by
 have hw:IntKind.wrap .i64 ((i:Int)+1)=((i+1:Nat):Int):=by rw[wrap64 (by omega) (by omega)];rfl
 have hz:(((2:Nat)):Int)=2:=rfl;obtain⟨h1,h2,h3,h4,h5,h6⟩:=h;obtain⟨d,L,u⟩:=st
 change (L 2).length < 1000 at h6
 rw[hz]at h3 h4 h5 ⊢;rw[qw];(conv=>zeta);rw[hw]
 have et:List.take (Bu ky vl) (E3 kd q ky vl)=E3 kd q ky vl:=zI (by rw[E9];exact zA _);have eL:List.take (L 2).length (List.drop 0 (L 2))=L 2:=by rw[zc,zI (zA _)]
 rw[et,eL];refine⟨NW _ _ h1,⟨h2,h3⟩,KI _ _ h4,by rw[E9];exact zA _,?_⟩;have hc:(true&&Nat.ble (0+(L 2).length) (L 2).length&&BQ 56 ((L 2).length+1))=true:=by
  rw[zN,y7 (zA _),Lu (by omega)];rfl
 have hlen:(L 2).length+1=(L 2++[(q,ky,kd==2,2,A8 d 2,((Bu ky vl:Nat):Int))]).length:=by rw[zM];rfl
 unfold EF;rw[hz];refine BX (fun c1=>?_) fun c1=>AB hc ⟨rfl,rfl,rfl,rfl,BX (fun c2=>⟨h5 c1 c2,?_⟩) fun c2=>?_⟩
 ·rw[c1];exact F0 _ L u l k _
 ·rw[c1,c2,hlen];exact F0 _ (GR L 2 _) (GR u 2 _) l k _
 ·rw[c1,c2,hlen];exact F0 _ (GR L 2 _) u l k _
theorem nh {st:PF} {l:List B2} {k i:Nat} {a b c:Int} {e f:Bool} {kd q:Int} {ky vl:As} (h:P7 st 3 f kd q ky vl) (hi:i < 1000):Iy UQ (Ax Ur) [] AF [20] No [] (fun _ _=>False) (fun c=>c=jl (EF st 3 f kd q ky vl).d (EF st 3 f kd q ky vl).L (EF st 3 f kd q ky vl).u l k ((i+1:Nat):Int)) 900 (TW st.d st.L st.u l k (i:Nat) a b c e f (((3:Nat)):Int) kd q ky vl):=by
 have hw:IntKind.wrap .i64 ((i:Int)+1)=((i+1:Nat):Int):=by rw[wrap64 (by omega) (by omega)];rfl
 have hz:(((3:Nat)):Int)=3:=rfl;obtain⟨h1,h2,h3,h4,h5,h6⟩:=h;obtain⟨d,L,u⟩:=st
 change (L 3).length < 1000 at h6
 rw[hz]at h3 h4 h5 ⊢;rw[tv];(conv=>zeta);rw[hw]
 have et:List.take (Bu ky vl) (E3 kd q ky vl)=E3 kd q ky vl:=zI (by rw[E9];exact zA _);have eL:List.take (L 3).length (List.drop 0 (L 3))=L 3:=by rw[zc,zI (zA _)]
 rw[et,eL];refine⟨NW _ _ h1,⟨h2,h3⟩,KI _ _ h4,by rw[E9];exact zA _,?_⟩;have hc:(true&&Nat.ble (0+(L 3).length) (L 3).length&&BQ 56 ((L 3).length+1))=true:=by
  rw[zN,y7 (zA _),Lu (by omega)];rfl
 have hlen:(L 3).length+1=(L 3++[(q,ky,kd==2,3,A8 d 3,((Bu ky vl:Nat):Int))]).length:=by rw[zM];rfl
 unfold EF;rw[hz];refine BX (fun c1=>?_) fun c1=>AB hc ⟨rfl,rfl,rfl,rfl,BX (fun c2=>⟨h5 c1 c2,?_⟩) fun c2=>?_⟩
 ·rw[c1];exact F0 _ L u l k _
 ·rw[c1,c2,hlen];exact F0 _ (GR L 3 _) (GR u 3 _) l k _
 ·rw[c1,c2,hlen];exact F0 _ (GR L 3 _) u l k _
theorem nj {st:PF} {l:List B2} {k i:Nat} {a b c:Int} {e f:Bool} {kd q:Int} {ky vl:As} (h:P7 st 4 f kd q ky vl) (hi:i < 1000):Iy UQ (Ax Ur) [] AF [20] No [] (fun _ _=>False) (fun c=>c=jl (EF st 4 f kd q ky vl).d (EF st 4 f kd q ky vl).L (EF st 4 f kd q ky vl).u l k ((i+1:Nat):Int)) 900 (TW st.d st.L st.u l k (i:Nat) a b c e f (((4:Nat)):Int) kd q ky vl):=by
 have hw:IntKind.wrap .i64 ((i:Int)+1)=((i+1:Nat):Int):=by rw[wrap64 (by omega) (by omega)];rfl
 have hz:(((4:Nat)):Int)=4:=rfl;obtain⟨h1,h2,h3,h4,h5,h6⟩:=h;obtain⟨d,L,u⟩:=st
 change (L 4).length < 1000 at h6
 rw[hz]at h3 h4 h5 ⊢;rw[uH];(conv=>zeta);rw[hw]
 have et:List.take (Bu ky vl) (E3 kd q ky vl)=E3 kd q ky vl:=zI (by rw[E9];exact zA _);have eL:List.take (L 4).length (List.drop 0 (L 4))=L 4:=by rw[zc,zI (zA _)]
 rw[et,eL];refine⟨NW _ _ h1,⟨h2,h3⟩,KI _ _ h4,by rw[E9];exact zA _,?_⟩;have hc:(true&&Nat.ble (0+(L 4).length) (L 4).length&&BQ 56 ((L 4).length+1))=true:=by
  rw[zN,y7 (zA _),Lu (by omega)];rfl
 have hlen:(L 4).length+1=(L 4++[(q,ky,kd==2,4,A8 d 4,((Bu ky vl:Nat):Int))]).length:=by rw[zM];rfl
 unfold EF;rw[hz];refine BX (fun c1=>?_) fun c1=>AB hc ⟨rfl,rfl,rfl,rfl,BX (fun c2=>⟨h5 c1 c2,?_⟩) fun c2=>?_⟩
 ·rw[c1];exact F0 _ L u l k _
 ·rw[c1,c2,hlen];exact F0 _ (GR L 4 _) (GR u 4 _) l k _
 ·rw[c1,c2,hlen];exact F0 _ (GR L 4 _) u l k _
def rl (n s:Int):Ab:=⟨(nf n.toNat s).map fun a=>⟨a,0,[]⟩,none,n,0,false⟩
def Mc (m:Nat):Nat:=Int.toNat (if (50:Int) < Int.ofNat m then 50 else Int.ofNat m) - 0
def yC (d:Ab) (l:List B2) (k:Nat):BT:=
 ⟨⟨AF,EZ [(3,At 21),(5,At 22),(29,Ao 20 k),(30,int k),(31,int 0)],BD AF,.code (A9 Tryz.prog AF [1,1,1,1,0,1,0,0])::Tu,[],false,.normal,none⟩,[],
  hp [.vec JQ l true,.abs (.pack (.dev d)) false,.cells [At 21,.slice none 0 0,.slice none 0 0,.slice none 0 0,.slice none 0 0,.slice none 0 0,int 0,int 0,int 0,int 0,int 0] 0 false]⟩
theorem ti (l:List B2) (m:Nat) (Q:Bm) (R:Bz):Iy UQ (Ax Ur) [] AF [20] No [] Q R 900 (st AF [Ao 20 m] (hp [.vec JQ l true]))=(
 let a:=if 50 < Int.ofNat m then 50 else Int.ofNat m;((2:Int)<=5/\(5:Int)<=32/\(1:Int)<=600/\(600:Int)<=8192)/\(bif decide (0<=if 50 < Int.ofNat m then 50 else Int.ofNat m)&&Nat.ble a.toNat m&&decide (0<=0)&&Nat.ble 0 a.toNat then(R (yC (rl 5 600) l (Mc m)))else False)):=by kernel_rfl
def Fq (m:Int):As:=if m=0 then { data:=#[97] } else if m=1 then { data:=#[98] } else if m=2 then { data:=#[107,101,121,46,50] } else { data:=#[122,45,57] }
def ZG (c:Int):As:=Fy (List.take (Int.toNat (Int.tmod c 40)) (List.drop 0 (List.replicate (Int.toNat (Int.tmod c 40)) (0:Int))))
structure Ld (p:B2):Prop where
 a0:0<=p.1
 a1:p.1 < 256
 b0:0<=p.2.1
 b1:p.2.1 < 256
 c0:0<=p.2.2.1
 c1:p.2.2.1 < 256
def DZ (p:B2):Nat:=(Int.tmod p.1 5).toNat
def M1 (p:B2):Int:=bif p.2.2.2.1 then 2 else 1
def LO (p:B2):As:=bif p.2.2.2.1 then { data:=#[] } else ZG p.2.2.1
theorem MJ {b m:Int} (h0:0<=b) (hn:0 < m):0<=Int.tmod b m/\Int.tmod b m < m:=by
 rw[ABx h0];exact⟨Int.emod_nonneg _ (by omega),Int.emod_lt_of_pos _ hn⟩
theorem js {d:Ab} {L:Nat->Aw} {u:Nat->Int} {l:List B2} {k:Nat} {i:Int} {p:B2} (hp:Ld p):
 NH UQ (Ax Ur) [] AF [20] No (fun c=>No.here c) uV (fun c=>Il AF 12 c) [] (fun _ _=>False) (fun _=>False) (fun c=>c=TW d L u l k i p.1 p.2.1 p.2.2.1 p.2.2.2.1 p.2.2.2.2 ((DZ p:Nat):Int) (M1 p) (IntKind.wrap .i64 (i+1)) (Fq (Int.tmod p.2.1 4)) (LO p)) 900 (vz d L u l k i p.1 p.2.1 p.2.2.1 p.2.2.2.1 p.2.2.2.2):=by
 obtain⟨a,b,c,e,f⟩:=p;obtain⟨a0,a1,b0,b1,c0,c1⟩:=hp;simp only at a0 a1 b0 b1 c0 c1;obtain⟨m0,m1⟩:=MJ (m:=4) b0 (by decide);obtain⟨n0,n1⟩:=MJ (m:=40) c0 (by decide);obtain⟨r0,r1⟩:=MJ (m:=5) a0 (by decide);have hs:IntKind.wrap .i64 (Int.tmod a 5)=((DZ (a,b,c,e,f):Nat):Int):=by
  unfold DZ;rw[wrap64 (by omega) (by omega)];show Int.tmod a 5=(((Int.tmod a 5).toNat:Nat):Int);omega
 rw[sM];(conv=>zeta);rw[hs]
 have t1:(decide (0<=Int.tmod c 40)&&decide (Int.tmod c 40<=Int.tmod c 40)&&decide (Int.tmod c 40<=140737488355328))=true:=by
  rw[zE n0,zE (AAv _),zE (show Int.tmod c 40<=140737488355328 by omega)];rfl
 have t2:Nat.ble (0+Int.toNat (Int.tmod c 40)) (List.length (List.replicate (Int.toNat (Int.tmod c 40)) (0:Int)))=true:=by
  rw[zw,zN];exact y7 (zA _)
 rw[t1,t2];rcases(show Int.tmod b 4=0∨Int.tmod b 4=1∨Int.tmod b 4=2∨Int.tmod b 4=3 by omega)with hb | hb | hb | hb
 all_goals
  rw[hb];show bif _ then _ else _
  cases e
  all_goals
   repeat' first
    | exact rfl
    | refine⟨rfl,?_⟩
    | refine AZ rfl ?_
    | refine AB rfl ?_
theorem tk (d:Ab) (L:Nat->Aw) (u:Nat->Int) (l:List B2) (k:Nat) (i:Int) (Q:Bm) (R R2:Bz):NH UQ (Ax Ur) [] AF [20,21,23,24,25,26,27] No (fun c=>No.here c) mJ (fun c=>Il AF 8 c) [] Q R R2 900 (jl d L u l k i)=(
 let a:=List.getD l (0+i.toNat) (EK.BL JQ);(bif decide (i < (k:Int))then(bif decide (0<=i)&&Nat.blt i.toNat k then(bif Nat.blt (0+i.toNat) l.length then(R2 (vz d L u l k i a.1 a.2.1 a.2.2.1 a.2.2.2.1 a.2.2.2.2))else False)else False)else(Q (At 22) [some (.vec JQ l true),some (.abs (Ct.pack (Pk.dev d)) false),some (.vec Ah (L 0) false),some (.vec Ah (L 1) false),some (.vec Ah (L 2) false),some (.vec Ah (L 3) false),some (.vec Ah (L 4) false),some (.cells [(At 21),(Ao 23 (L 0).length),(Ao 24 (L 1).length),(Ao 25 (L 2).length),(Ao 26 (L 3).length),(Ao 27 (L 4).length),(int (u 0)),(int (u 1)),(int (u 2)),(int (u 3)),(int (u 4))] 0 false)]))):=by kernel_rfl
def PJ (l:List B2) (i:Nat):B2:=List.getD l i (EK.BL JQ)
def QP (st:PF) (i:Nat) (p:B2):PF:=EF st (DZ p) p.2.2.2.2 (M1 p) ((i+1:Nat):Int) (Fq (Int.tmod p.2.1 4)) (LO p)
def VB (st:PF) (i:Nat) (p:B2):Prop:=Ld p/\P7 st (DZ p) p.2.2.2.2 (M1 p) ((i+1:Nat):Int) (Fq (Int.tmod p.2.1 4)) (LO p)
def Eo (l:List B2):Nat->Nat->PF->PF
 | 0,_,st=>st
 | n+1,i,st=>Eo l n (i+1) (QP st i (PJ l i))
def WI (l:List B2):Nat->Nat->PF->Prop
 | 0,_,_=>True
 | n+1,i,st=>VB st i (PJ l i)/\WI l n (i+1) (QP st i (PJ l i))
def Oo:PF:=⟨rl 5 600,fun _=>[],fun _=>0⟩
def sa (st:PF) (l:List B2):LR:=[some (.vec JQ l true),some (.abs (.pack (.dev st.d)) false),some (.vec Ah (st.L 0) false),some (.vec Ah (st.L 1) false),some (.vec Ah (st.L 2) false),some (.vec Ah (st.L 3) false),some (.vec Ah (st.L 4) false),some (xr 23 st.L st.u)]
def qj (st:PF) (l:List B2) (v:Value) (H:AA):Prop:=v=At 22/\[20,21,23,24,25,26,27,22].map H.get=sa st l
theorem bD {p:B2} (h:Ld p):DZ p < 5:=by
 obtain⟨r0,r1⟩:=MJ (m:=5) h.a0 (by decide);unfold DZ;omega
theorem tx {s:Nat} (hs:s < 5) {st:PF} {l:List B2} {k i:Nat} {a b c:Int} {e f:Bool} {kd q:Int} {ky vl:As} (h:P7 st s f kd q ky vl) (hi:i < 1000):Iy UQ (Ax Ur) [] AF [20] No [] (fun _ _=>False) (fun c=>c=jl (EF st s f kd q ky vl).d (EF st s f kd q ky vl).L (EF st s f kd q ky vl).u l k ((i+1:Nat):Int)) 900 (TW st.d st.L st.u l k (i:Nat) a b c e f ((s:Nat):Int) kd q ky vl):=by
 match s,hs,h with
 | 0,_,h=>exact mv h hi
 | 1,_,h=>exact mL h hi
 | 2,_,h=>exact oT h hi
 | 3,_,h=>exact nh h hi
 | 4,_,h=>exact nj h hi
 | s+5,hs,_=>exact absurd hs (by omega)
theorem mj {l:List B2} {k:Nat} (hk:k<=l.length) (hk2:k<=50):∀(n i:Nat) (st:PF),k - i=n->i<=k->WI l n i st->AX UQ 21 AF (qj (Eo l n i st) l) (jl st.d st.L st.u l k (i:Nat)):=by
 intro n;induction n with
 | zero=>
  intro i st hn hi _;refine IH dr.pf (M:=21) (S:=No) (S2:=mJ) (h1:=fun c=>No.here c) (h2:=fun c=>Il AF 8 c) (ks:=[]) (hs:=[]) (ids:=[20,21,23,24,25,26,27]) (by kernel_rfl) (by decide) (by decide) (Q:=fun v os=>v=At 22/\os=sa st l) (R:=fun _=>False) (R2:=fun _=>False) (fun v H hq=>?_) (fun c h=>h.elim) (fun c h=>h.elim) 900 _ ?_
  ·obtain⟨rfl,hos⟩:=hq;exact⟨rfl,hos⟩
  ·rw[tk];exact AZ (zL (by omega)) ⟨rfl,rfl⟩
 | succ n ih=>
  intro i st hn hi hall;obtain⟨⟨hp,h1⟩,h2⟩:=hall;have hik:i < k:=by omega
  refine IH dr.pf (M:=21) (S:=No) (S2:=mJ) (h1:=fun c=>No.here c) (h2:=fun c=>Il AF 8 c) (ks:=[]) (hs:=[]) (ids:=[20]) (by kernel_rfl) (by decide) (by decide) (Q:=fun _ _=>False) (R:=fun _=>False) (R2:=fun c=>c=vz st.d st.L st.u l k (i:Nat) (PJ l i).1 (PJ l i).2.1 (PJ l i).2.2.1 (PJ l i).2.2.2.1 (PJ l i).2.2.2.2) (fun v H h=>h.elim) (fun c h=>h.elim) (fun c hc=>?_) 900 _ ?_
  ·rw[hc];refine IH dr.pf (M:=21) (S:=No) (S2:=uV) (h1:=fun c=>No.here c) (h2:=fun c=>Il AF 12 c) (ks:=[]) (hs:=[]) (ids:=[20]) (by kernel_rfl) (by decide) (by decide) (Q:=fun _ _=>False) (R:=fun _=>False) (R2:=_) (fun v H h=>h.elim) (fun c h=>h.elim) (fun c hc=>?_) 900 _ (js hp);rw[hc];have hw:IntKind.wrap .i64 ((i:Int)+1)=((i+1:Nat):Int):=by rw[wrap64 (by omega) (by omega)];rfl
   rw[hw];refine Bq dr.pf [] [20] No [] (by kernel_rfl) (show 21<=21 from zA _) (fun _ _=>False) _ (fun v H h=>h.elim) (fun c hc=>?_) (n:=900) (tx (bD hp) h1 (by omega));rw[hc];exact ih (i+1) _ (by omega) (by omega) h2
  ·rw[uT];(conv=>zeta)
   simp only[zH,zN];exact AB (zE (by omega)) (AB (EI hik) (AB (Gc (by omega)) rfl))
def xy (args:AL) (objs:BN):GT:=match args,objs with
 | [.slice (some ⟨20,0,some 0⟩) m 18446744073709551616],[.vec [.int .u8,.int .u8,.int .u8,.bool,.bool] l _]=> .ask (m=l.length/\WI l (Mc m) 0 Oo) (.ret ⟨At 21,[],[.cells [At 22,Ao 23 ((Eo l (Mc m) 0 Oo).L 0).length,Ao 24 ((Eo l (Mc m) 0 Oo).L 1).length,Ao 25 ((Eo l (Mc m) 0 Oo).L 2).length,Ao 26 ((Eo l (Mc m) 0 Oo).L 3).length,Ao 27 ((Eo l (Mc m) 0 Oo).L 4).length,int ((Eo l (Mc m) 0 Oo).u 0),int ((Eo l (Mc m) 0 Oo).u 1),int ((Eo l (Mc m) 0 Oo).u 2),int ((Eo l (Mc m) 0 Oo).u 3),int ((Eo l (Mc m) 0 Oo).u 4)] 0 false,
  .abs (.pack (.dev (Eo l (Mc m) 0 Oo).d)) false,.vec Ah ((Eo l (Mc m) 0 Oo).L 0) false,.vec Ah ((Eo l (Mc m) 0 Oo).L 1) false,.vec Ah ((Eo l (Mc m) 0 Oo).L 2) false,.vec Ah ((Eo l (Mc m) 0 Oo).L 3) false,.vec Ah ((Eo l (Mc m) 0 Oo).L 4) false]⟩)
 | _,_=> .fail
def QI (p:B2):Nat:=bif p.2.2.2.1 then 2 else 1
theorem Ob (p:B2):M1 p=(QI p:Nat):=by unfold M1 QI;cases p.2.2.2.1<;>rfl
theorem bO (m:Int):I1 (Fq m)=0/\(Fq m).size<=5/\1<=(Fq m).size:=by
 unfold Fq;split
 ·exact⟨by kernel_rfl,by decide,by decide⟩
 ·split
  ·exact⟨by kernel_rfl,by decide,by decide⟩
  ·split
   ·exact⟨by kernel_rfl,by decide,by decide⟩
   ·exact⟨by kernel_rfl,by decide,by decide⟩
theorem S7 {p:B2} (h:Ld p):(LO p).size<=39:=by
 unfold LO;cases p.2.2.2.1
 ·rw[zC];obtain⟨r0,r1⟩:=MJ (m:=40) h.c0 (by decide);show(ZG p.2.2.1).data.size<=39;unfold ZG Fy;simp only[ABR,AAK,zO,zT,zw];omega
 ·exact za _
def LQ (i:Nat) (p:B2):C2:=⟨QI p,i+1,Fq (Int.tmod p.2.1 4),LO p⟩
theorem mg {i:Nat} {p:B2} (h:Ld p) (hi:i < 1000):(LQ i p).ok:=by
 show DR (QI p:Nat) ((i+1:Nat):Int) (Fq (Int.tmod p.2.1 4)) (LO p)=true;obtain⟨k1,k2,k3⟩:=bO (Int.tmod p.2.1 4);have hv:=S7 h;have e1:(((QI p:Nat):Int)==1||(((QI p:Nat):Int)==2&&Jf (LO p)))=true:=by
  unfold QI LO;cases p.2.2.2.1
  ·rfl
  ·unfold Jf;show(false||(true&&((ByteArray.toList { data:=#[] })==(ByteArray.toList { data:=#[] }))))=true;rw[AA2];rfl
 have e2:J6 (LO p) 512=0:=by
  unfold J6;rw[zL (by decide),zL (by decide),zL (by show ¬((LO p).size:Int) > 512;omega)];rfl
 unfold DR;rw[e1,k1,e2,zL (by omega),zL (by omega)];rfl
theorem cK {i:Nat} {p:B2} (h:Ld p):(LQ i p).size<=60:=by
 obtain⟨k1,k2,k3⟩:=bO (Int.tmod p.2.1 4);have hv:=S7 h;show 16+(Fq (Int.tmod p.2.1 4)).size+(LO p).size<=60;omega
structure FI (st:PF) (i:Nat) (rs:Nat->List C2) (us:Nat->Nat):Prop where
 sl:st.d.AR=5
 dn:st.d.down=false
 pl:st.d.BJ=none
 len:st.d.BB.length=7
 o0:0<=st.d.ops
 o1:st.d.ops<=2 * i
 im:∀s:Nat,s < 5->CV st.d (s:Nat)=⟨600,((B3 ((rs s).take (us s))).length:Nat),B3 (rs s)⟩
 wA:∀s:Nat,5<=s->s < 7->CV st.d (s:Nat)=⟨64,0,[]⟩
 L:∀s:Nat,s < 5->st.L s=D4 (s:Nat) 0 (rs s)
 u:∀s:Nat,s < 5->st.u s=(us s:Nat)/\us s<=(rs s).length
 sz:∀s:Nat,s < 5->(B3 (rs s)).length<=600
 ok:∀s:Nat,s < 5->∀r∈rs s,r.ok
 nd:∀s:Nat,s < 5->((rs s).map C2.q).Nodup
 DG:∀s s':Nat,s < 5->s' < 5->s≠s'->∀r∈rs s,∀r'∈rs s',r.q≠r'.q
 q:∀s:Nat,s < 5->∀r∈rs s,r.q<=i
 qk:∀s:Nat,s < 5->(rs s).length<=i
theorem LM {d:Ab} {g:AS->AS} {s:Nat} {P:Option BP} {S O:Int} {D:Bool} (hs:s < d.BB.length) (t:Nat):CV ⟨D6 g (s:Nat) d.BB,P,S,O,D⟩ (t:Nat)=if s=t then g (CV d (s:Nat))else CV d (t:Nat):=by
 unfold CV D6;simp only[zH];rw[zK,zR,zJ hs];split
 ·rfl
 ·rw[<-zK]
theorem RR (s:Int) (r:C2):∀(rs:List C2) (off:Nat),D4 s off (rs++[r])=D4 s off rs++[Ou s (off+(B3 rs).length) r]
 | [],off=>rfl
 | r0::rs,off=>by
  have hB:B3 (r0::rs)=r0.bytes++B3 rs:=rfl;show Ou s off r0::D4 s (off+r0.size) (rs++[r])=Ou s off r0::(D4 s (off+r0.size) rs++[_]);rw[RR s r rs,hB,zM,r0.len,zv]
theorem H6 (s:Int):∀(rs:List C2) (off:Nat),(D4 s off rs).length=rs.length
 | [],_=>rfl
 | r::rs,off=>by show(D4 s (off+r.size) rs).length+1=rs.length+1;rw[H6 s rs]
theorem OH (rs:List C2) (r:C2):B3 (rs++[r])=B3 rs++r.bytes:=by
 unfold B3;rw[ABr,AB2,List.flatMap_nil,AAP]
theorem Mw {α:Type} (L:Nat->α) (s:Nat) (x:α):GR L s x s=x:=by unfold GR;rw[zn];rfl
theorem PX {α:Type} (L:Nat->α) {s t:Nat} (x:α) (h:t≠s):GR L s x t=L t:=by
 unfold GR;cases hb:Nat.beq t s
 ·rfl
 ·exact absurd (y9 hb) h
theorem FI.next {st:PF} {i:Nat} {rs:Nat->List C2} {us:Nat->Nat} (h:FI st i rs us):FI st (i+1) rs us:=
 ⟨h.sl,h.dn,h.pl,h.len,h.o0,by have:=h.o1;omega,h.im,h.wA,h.L,h.u,h.sz,h.ok,h.nd,h.DG,fun s hs r hr=>by have:=h.q s hs r hr;omega,fun s hs=>by have:=h.qk s hs;omega⟩
theorem FI.add {st st':PF} {i s:Nat} {rs:Nat->List C2} {us us':Nat->Nat} (h:FI st i rs us) {r:C2} (hs:s < 5) (hr:r.ok) (hq:r.q=i+1) (hz:(B3 (rs s)).length+r.size<=600)
 (sl:st'.d.AR=5) (dn:st'.d.down=false) (pl:st'.d.BJ=none) (len:st'.d.BB.length=7) (o0:0<=st'.d.ops) (o1:st'.d.ops<=2 * (i+1:Nat))
 (hL:st'.L=GR st.L s (st.L s++[Ou (s:Nat) (B3 (rs s)).length r]))
 (him:CV st'.d (s:Nat)=⟨600,((B3 ((rs s++[r]).take (us' s))).length:Nat),B3 (rs s++[r])⟩) (hne:∀t:Nat,t≠s->CV st'.d (t:Nat)=CV st.d (t:Nat))
 (hu:st'.u s=(us' s:Nat)/\us' s<=(rs s++[r]).length) (hu2:∀t:Nat,t≠s->st'.u t=st.u t/\us' t=us t):FI st' (i+1) (GR rs s (rs s++[r])) us':=by
 have hA:∀t:Nat,t≠s->GR rs s (rs s++[r]) t=rs t:=fun t ht=>PX _ _ ht
 have hB:=Mw rs s (rs s++[r]);refine⟨sl,dn,pl,len,o0,o1,fun t ht=>?_,fun t h1 h2=>?_,fun t ht=>?_,fun t ht=>?_,fun t ht=>?_,fun t ht=>?_,fun t ht=>?_,fun t t' ht ht' hn=>?_,fun t ht=>?_,fun t ht=>?_⟩
 ·by_cases e:t=s
  ·subst e;rw[hB];exact him
  ·rw[hA t e,hne t e,h.im t ht,(hu2 t e).2]
 ·rw[hne t (by omega)];exact h.wA t h1 h2
 ·rw[hL]
  by_cases e:t=s
  ·subst e;rw[hB,Mw,RR,h.L t ht,zN]
  ·rw[hA t e,PX _ _ e];exact h.L t ht
 ·by_cases e:t=s
  ·subst e;rw[hB];exact hu
  ·rw[hA t e,(hu2 t e).1,(hu2 t e).2];exact h.u t ht
 ·by_cases e:t=s
  ·subst e;rw[hB,OH,zM,r.len];exact hz
  ·rw[hA t e];exact h.sz t ht
 ·by_cases e:t=s
  ·subst e;rw[hB];intro x hx;rcases List.mem_append.1 hx with hx | hx
   ·exact h.ok t ht x hx
   ·rw[zP]at hx;rw[hx];exact hr
  ·rw[hA t e];exact h.ok t ht
 ·by_cases e:t=s
  ·subst e;rw[hB,ABq];refine List.nodup_append.2 ⟨h.nd t ht,List.nodup_cons.2 ⟨zq,zx⟩,fun a ha b hb=>?_⟩;obtain⟨x,hx,rfl⟩:=List.mem_map.1 ha;have hb:b=r.q:=by simpa using hb
   have:=h.q t ht x hx;omega
  ·rw[hA t e];exact h.nd t ht
 ·have hm:∀t,t < 5->∀x∈GR rs s (rs s++[r]) t,x∈rs t∨(t=s/\x.q=i+1):=fun t ht x hx=>by
   by_cases e:t=s
   ·subst e;rw[hB]at hx;rcases List.mem_append.1 hx with hx | hx
    ·exact .inl hx
    ·rw[zP]at hx;rw[hx];exact .inr ⟨rfl,hq⟩
   ·rw[hA t e]at hx;exact .inl hx
  intro x hx y hy;rcases hm t ht x hx with h1 | ⟨h1,h1'⟩
  ·rcases hm t' ht' y hy with h2 | ⟨h2,h2'⟩
   ·exact h.DG t t' ht ht' hn x h1 y h2
   ·have:=h.q t ht x h1;omega
  ·rcases hm t' ht' y hy with h2 | ⟨h2,h2'⟩
   ·have:=h.q t' ht' y h2;omega
   ·omega
 ·by_cases e:t=s
  ·subst e;rw[hB];intro x hx;rcases List.mem_append.1 hx with hx | hx
   ·have:=h.q t ht x hx;omega
   ·rw[zP]at hx;rw[hx];omega
  ·rw[hA t e];intro x hx;have:=h.q t ht x hx;omega
 ·by_cases e:t=s
  ·subst e;rw[hB,zM];have:=h.qk t ht;show _+1<=_;omega
  ·rw[hA t e];have:=h.qk t ht;omega
theorem Te {d:Ab} {s:Nat} {l:Ad} (hd:d.down=false) (hp:d.BJ=none) (hl:d.BB.length=7) (hs:s < 7) (hr:(l.length:Int)<=Gw d (s:Nat)):DX d (s:Nat) l=(0,⟨D6 (fun m=>FP m l) (s:Nat) d.BB,none,d.AR,J3 d.ops,false⟩):=by
 rw[NX hd (Fe hl hs) (by omega)];unfold MZ;rw[hp,hd]
theorem bX {d:Ab} {s:Nat} {l:Ad} (hd:d.down=false) (hl:d.BB.length=7) (hs:s < 7) (hr:¬(l.length:Int)<=Gw d (s:Nat)):DX d (s:Nat) l=(4,d):=MD hd (Fe hl hs) (by omega)
theorem WN {d:Ab} {s:Nat} (hd:d.down=false) (hp:d.BJ=none) (hl:d.BB.length=7) (hs:s < 7):De d (s:Nat)=(0,⟨D6 Cn (s:Nat) d.BB,none,d.AR,J3 d.ops,false⟩):=by
 unfold De;rw[NK hd (Fe hl hs)];unfold MZ;rw[hp,hd]
theorem P1 {o:Int} (h0:0<=o) (h1:o<=1000000):J3 o=o+1:=wrap64 (by omega) (by omega)
theorem nS {st:PF} {i:Nat} {rs:Nat->List C2} {us:Nat->Nat} (h:FI st i rs us) (hi:i < 1000) {p:B2} (hp:Ld p):VB st i p/\∃rs' us',FI (QP st i p) (i+1) rs' us':=by
 have hs:=bD hp;have hsz:=cK (i:=i) hp;have hrok:=mg hp hi;have hb:(E3 (M1 p) ((i+1:Nat):Int) (Fq (Int.tmod p.2.1 4)) (LO p))=(LQ i p).bytes:=by rw[Ob];rfl
 have hlen:(LQ i p).bytes.length=(LQ i p).size:=(LQ i p).len;have him:=h.im (DZ p) hs;have hdl:A8 st.d ((DZ p:Nat):Int)=((B3 (rs (DZ p))).length:Nat):=by unfold A8;rw[him]
 have hroom:Gw st.d ((DZ p:Nat):Int)=600 - ((B3 (rs (DZ p))).length:Nat):=by
  have e:Gw st.d ((DZ p:Nat):Int)=(CV st.d ((DZ p:Nat):Int)).size - (CV st.d ((DZ p:Nat):Int)).b.length:=rfl;rw[e,him]
 have hszs:=h.sz (DZ p) hs;have o0:=h.o0;have o1:=h.o1;have hcnt:=h.qk (DZ p) hs;have hLl:(st.L (DZ p)).length=(rs (DZ p)).length:=by rw[h.L _ hs,H6]
 have hrec:DR (M1 p) ((i+1:Nat):Int) (Fq (Int.tmod p.2.1 4)) (LO p)=true:=by rw[Ob];exact hrok
 have hrent:L6 (M1 p) ((i+1:Nat):Int) (Fq (Int.tmod p.2.1 4)) (LO p) ((DZ p:Nat):Int) (A8 st.d ((DZ p:Nat):Int))=true:=by
  unfold L6;rw[hrec,hdl,zL (by omega),zL (by omega),zL (by omega),zL (by omega)];rfl
 have hbad:=Fe h.len (show DZ p < 7 by omega);have ON:((((i+1:Nat):Int)),Fq (Int.tmod p.2.1 4),M1 p==2,((DZ p:Nat):Int),A8 st.d ((DZ p:Nat):Int),((Bu (Fq (Int.tmod p.2.1 4)) (LO p):Nat):Int))=Ou ((DZ p:Nat):Int) (B3 (rs (DZ p))).length (LQ i p):=by
  rw[hdl,Ob];rfl
 by_cases hr:(((LQ i p).bytes.length:Nat):Int)<=Gw st.d ((DZ p:Nat):Int)
 ·have hz:(B3 (rs (DZ p))).length+(LQ i p).size<=600:=by rw[hroom,hlen]at hr;omega
  have hap:=Te h.dn h.pl h.len (show DZ p < 7 by omega) hr;have hw:=P1 o0 (by omega);have hdl2:(D6 (fun m=>FP m (LQ i p).bytes) ((DZ p:Nat):Int) st.d.BB).length=7:=by rw[Gl];exact h.len
  have hsy:=WN (d:=⟨D6 (fun m=>FP m (LQ i p).bytes) ((DZ p:Nat):Int) st.d.BB,none,st.d.AR,J3 st.d.ops,false⟩) rfl rfl hdl2 (show DZ p < 7 by omega);refine⟨⟨hp,hrec,h.dn,hbad,hrent,fun _ _=>by rw[hb,hap,hsy],by omega⟩,?_⟩;unfold QP EF;rw[hb,hap];show ∃rs' us',FI (bif p.2.2.2.2 then _ else _) (i+1) rs' us'
  have hget:∀t:Nat,CV ⟨D6 (fun m=>FP m (LQ i p).bytes) ((DZ p:Nat):Int) st.d.BB,none,st.d.AR,J3 st.d.ops,false⟩ (t:Nat)=if DZ p=t then FP (CV st.d ((DZ p:Nat):Int)) (LQ i p).bytes else CV st.d (t:Nat):=fun t=>LM (by rw[h.len];omega) t
  cases hf:p.2.2.2.2
  ·rw[zC];refine⟨_,us,h.add hs hrok rfl hz h.sl rfl rfl hdl2 (by show 0<=J3 _;omega) (by show J3 _<=_;omega) (by rw[<-ON]) ?_ (fun t ht=>?_) ?_ fun t _=>⟨rfl,rfl⟩⟩
   ·rw[hget,zJ rfl,him,OH];have hu:=(h.u _ hs).2;rw[zg hu];rfl
   ·rw[hget,zF (AAA ht)]
   ·obtain⟨u1,u2⟩:=h.u _ hs;exact⟨u1,by rw[zM];omega⟩
  ·rw[y8];have hs2:DZ p < (D6 (fun m=>FP m (LQ i p).bytes) ((DZ p:Nat):Int) st.d.BB).length:=by rw[hdl2];omega
   have hw2:J3 (J3 st.d.ops)=st.d.ops+2:=by rw[hw,P1 (by omega) (by omega)];omega
   refine⟨_,GR us (DZ p) ((rs (DZ p)).length+1),h.add hs hrok rfl hz ?_ ?_ ?_ ?_ ?_ ?_ (by rw[<-ON]) ?_ (fun t ht=>?_) ?_ fun t ht=>⟨PX _ _ ht,PX _ _ ht⟩⟩
   ·show(De _ _).2.AR=_;rw[hsy];exact h.sl
   ·show(De _ _).2.down=_;rw[hsy]
   ·show(De _ _).2.BJ=_;rw[hsy]
   ·show(De _ _).2.BB.length=_;rw[hsy];show(D6 _ _ _).length=7;rw[Gl];exact hdl2
   ·show 0<=(De _ _).2.ops;rw[hsy];show 0<=J3 (J3 _);omega
   ·show(De _ _).2.ops<=_;rw[hsy];show J3 (J3 _)<=_;omega
   ·show CV (De _ _).2 _=_;rw[hsy,Mw];show CV ⟨D6 Cn _ _,_,_,_,_⟩ _=_;have ht:(rs (DZ p)++[LQ i p]).take ((rs (DZ p)).length+1)=rs (DZ p)++[LQ i p]:=zI (by rw[zM];exact zA _);rw[LM hs2,zJ rfl,hget,zJ rfl,him,ht,OH];rfl
   ·show CV (De _ _).2 _=_;rw[hsy];show CV ⟨D6 Cn _ _,_,_,_,_⟩ _=_;rw[LM hs2,zF (AAA ht),hget,zF (AAA ht)]
   ·rw[Mw];refine⟨?_,by rw[zM];exact zA _⟩;show GR st.u (DZ p) _ (DZ p)=_;rw[Mw,zM,hLl];rfl
 ·have hap:=bX h.dn h.len (show DZ p < 7 by omega) hr;refine⟨⟨hp,hrec,h.dn,hbad,hrent,fun e=>(by rw[hb,hap]at e;cases e),by omega⟩,rs,us,?_⟩;unfold QP EF;rw[hb,hap];exact h.next
theorem ji {l:List B2} (hp:∀i,Ld (PJ l i)):∀(n i:Nat) (st:PF) (rs:Nat->List C2) (us:Nat->Nat),i+n<=1000->FI st i rs us->WI l n i st/\∃rs' us',FI (Eo l n i st) (i+n) rs' us'
 | 0,i,st,rs,us,_,h=>⟨trivial,rs,us,h⟩
 | n+1,i,st,rs,us,hn,h=>by
  obtain⟨h1,rs1,us1,h2⟩:=nS h (by omega) (hp i);obtain⟨h3,rs2,us2,h4⟩:=ji hp n (i+1) _ rs1 us1 (by omega) h2;refine⟨⟨h1,h3⟩,rs2,us2,?_⟩;rw[show i+(n+1)=i+1+n from by omega];exact h4
theorem yG:FI Oo 0 (fun _=>[]) fun _=>0:=by
 refine⟨rfl,rfl,rfl,rfl,AAv _,AAv _,fun s hs=>?_,fun s h1 h2=>?_,fun s _=>rfl,fun s _=>⟨rfl,zA _⟩,fun s _=>za _,fun s _ r hr=>(by cases hr),fun s _=>zx,fun s s' _ _ _ r hr=>(by cases hr),fun s _ r hr=>(by cases hr),fun s _=>za _⟩
 ·match s,hs with
  | 0,_=>rfl
  | 1,_=>rfl
  | 2,_=>rfl
  | 3,_=>rfl
  | 4,_=>rfl
  | s+5,h=>exact absurd h (by omega)
 ·match s,h1,h2 with
  | 5,_,_=>rfl
  | 6,_,_=>rfl
  | 0,h,_=>exact absurd h (by omega)
  | 1,h,_=>exact absurd h (by omega)
  | 2,h,_=>exact absurd h (by omega)
  | 3,h,_=>exact absurd h (by omega)
  | 4,h,_=>exact absurd h (by omega)
  | s+7,_,h=>exact absurd h (by omega)
theorem jZ {d:Ab} {l:List B2} {k:Nat} {Q:Ih} (hT:AX UQ 21 AF Q (jl d (fun _=>[]) (fun _=>0) l k ((0:Nat):Int))):AX UQ 21 AF Q (yC d l k):=by
 refine A5.Gh 22 5 Ah [At 21] [.slice none 0 0,.slice none 0 0,.slice none 0 0,.slice none 0 0,int 0,int 0,int 0,int 0,int 0] (e:=0) (ro:=false) (b':=22) (o:=0) (s:=none) (by kernel_rfl) (by kernel_rfl) (by kernel_rfl) (by kernel_rfl) (by decide) ?_;refine A5.Gh 22 5 Ah [At 21,Ao 23 0] [.slice none 0 0,.slice none 0 0,.slice none 0 0,int 0,int 0,int 0,int 0,int 0] (e:=0) (ro:=false) (b':=22) (o:=0) (s:=none) (by kernel_rfl) (by kernel_rfl) (by kernel_rfl) (by kernel_rfl) (by decide) ?_;refine A5.Gh 22 5 Ah [At 21,Ao 23 0,Ao 24 0] [.slice none 0 0,.slice none 0 0,int 0,int 0,int 0,int 0,int 0] (e:=0) (ro:=false) (b':=22) (o:=0) (s:=none) (by kernel_rfl) (by kernel_rfl) (by kernel_rfl) (by kernel_rfl) (by decide) ?_;refine A5.Gh 22 5 Ah [At 21,Ao 23 0,Ao 24 0,Ao 25 0] [.slice none 0 0,int 0,int 0,int 0,int 0,int 0] (e:=0) (ro:=false) (b':=22) (o:=0) (s:=none) (by kernel_rfl) (by kernel_rfl) (by kernel_rfl) (by kernel_rfl) (by decide) ?_;refine A5.Gh 22 5 Ah [At 21,Ao 23 0,Ao 24 0,Ao 25 0,Ao 26 0] [int 0,int 0,int 0,int 0,int 0] (e:=0) (ro:=false) (b':=22) (o:=0) (s:=none) (by kernel_rfl) (by kernel_rfl) (by kernel_rfl) (by kernel_rfl) (by decide) ?_;refine cast ?_ hT;kernel_rfl
theorem Xn (m:Nat):Mc m<=m/\Mc m<=50:=by
 unfold Mc;split
 ·rename_i h;have h:(50:Int) < (m:Int):=h;show Int.toNat 50 - 0<=m/\Int.toNat 50 - 0<=50;have:Int.toNat 50=50:=rfl;omega
 ·rename_i h;have h:¬(50:Int) < (m:Int):=h;show m - 0<=m/\m - 0<=50;omega
theorem vQ (m:Nat):(decide ((0:Int)<=if (50:Int) < Int.ofNat m then 50 else Int.ofNat m)&&Nat.ble (Int.toNat (if (50:Int) < Int.ofNat m then 50 else Int.ofNat m)) m&&decide ((0:Nat)<=0)&&Nat.ble 0 (Int.toNat (if (50:Int) < Int.ofNat m then 50 else Int.ofNat m)))=true:=by
 have h1:Int.toNat (if (50:Int) < Int.ofNat m then 50 else Int.ofNat m)<=m:=(Xn m).1;have h0:(0:Int)<=if (50:Int) < Int.ofNat m then 50 else Int.ofNat m:=by
  split
  ·decide
  ·exact zk m
 rw[zE h0,y7 h1,y7 (za _)];rfl
theorem gH:CY Tryz.prog AI AF (Ai AI 20 [] xy):=by
 refine BF dr.all (by kernel_rfl) (n:=BD AF) (by kernel_rfl) (by kernel_rfl) fun argsc objs x hx hro=>?_
 clear hro;unfold xy at hx;split at hx
 ·rename_i m l ro;simp only[GT.run]at hx;split at hx
  ·rename_i hp0;cases hx
   obtain⟨rfl,hall⟩:=hp0;generalize hst:Eo l (Mc l.length) 0 Oo=st;refine⟨VC (by kernel_rfl),Ak.mono (AX.Fh (Q:=qj st l) ?_) ?_⟩
   ·obtain⟨k1,k2⟩:=Xn l.length;refine Bq dr.pf [] [20] No [] (by kernel_rfl) (show 21<=21 from zA _) (fun _ _=>False) (fun c=>c=yC (rl 5 600) l (Mc l.length)) (fun v H h=>h.elim) (fun c hc=>?_) (n:=900) (c:=Go.AD.st AF [Ao 20 l.length] (hp [.vec JQ l true])) ?_
    ·rw[hc];have:=mj (l:=l) (k:=Mc l.length) k1 k2 _ 0 Oo rfl (za _) hall;rw[ABD,hst]at this;exact jZ this
    ·rw[ti];exact⟨by decide,AB (vQ _) rfl⟩
   ·rintro v H ⟨rfl,hos⟩;unfold sa at hos;simp only[zb,AAY,zQ,AAF]at hos;obtain⟨g20,g21,g23,g24,g25,g26,g27,g22⟩:=hos;refine⟨[22,21,23,24,25,26,27],by decide,fun b hb=>?_,rfl,rfl,fun j b o hj ho=>?_,fun j o hj=>?_⟩
    ·simp only[zl,zq,AAw]at hb;show 21<=b;omega
    ·match j,hj,ho with
     | 0,hj,ho=>cases hj;cases ho;exact⟨_,rfl,g22⟩
     | 1,hj,ho=>cases hj;cases ho;exact⟨_,rfl,g21⟩
     | 2,hj,ho=>cases hj;cases ho;exact⟨_,rfl,g23⟩
     | 3,hj,ho=>cases hj;cases ho;exact⟨_,rfl,g24⟩
     | 4,hj,ho=>cases hj;cases ho;exact⟨_,rfl,g25⟩
     | 5,hj,ho=>cases hj;cases ho;exact⟨_,rfl,g26⟩
     | 6,hj,ho=>cases hj;cases ho;exact⟨_,rfl,g27⟩
     | j+7,hj,_=>cases hj
    ·intro hm;cases hm
  ·cases hx
 ·cases hx
def wK:Stop:=⟨A6,0,3,22,[20,21],[0,1,12,13]⟩
def ux (l1 l2:Aw) (n m:Nat) (i:Int):BT:=
 ⟨⟨A6,EZ [(0,Ao 20 n),(1,Ao 21 m),(12,int n),(13,int i)],BD A6,[.code (A9 Tryz.prog A6 [1,1,0,1,0,0]),.inLoop (A9 Tryz.prog A6 [1,1,0,1,0,0]),.inBlock 0,.code (A9 Tryz.prog A6 [1,1,1])],[],false,.normal,none⟩,[],hp [.vec Ah l1 true,.vec Ah l2 true]⟩
theorem uN (l1 l2:Aw) (n m:Nat) (Q:Bm) (R:Bz):Iy xI (Ax u6) [] A6 [] wK [] Q R 300 (st A6 [Ao 20 n,Ao 21 m] (hp [.vec Ah l1 true,.vec Ah l2 true]))=(
 (bif Int.ofNat n != Int.ofNat m then(Q (.bool false) [])else(R (ux l1 l2 n m 0)))):=by kernel_rfl
theorem qd (l1 l2:Aw) (n m:Nat) (i:Int) (Q:Bm) (R:Bz):Iy xI (Ax u6) [] A6 [] wK [] Q R 300 (ux l1 l2 n m i)=(
 let b:=List.getD l2 (0+i.toNat) (EK.BL Ah);let a:=List.getD l1 (0+i.toNat) (EK.BL Ah);(bif decide (i < (n:Int))then(bif decide (0<=i)&&Nat.blt i.toNat n then(bif Nat.blt (0+i.toNat) l1.length then(bif decide (0<=i)&&Nat.blt i.toNat m then(bif Nat.blt (0+i.toNat) l2.length then(bif !(a.1==b.1&&(ByteArray.toList a.2.1==ByteArray.toList b.2.1&&(a.2.2.1==b.2.2.1&&(a.2.2.2.1==b.2.2.2.1&&(a.2.2.2.2.1==b.2.2.2.2.1&&(a.2.2.2.2.2==b.2.2.2.2.2&&true))))))then(Q (.bool false) [])else(R (ux l1 l2 n m (IntKind.wrap .i64 (i+1)))))else False)else False)else False)else False)else(Q (.bool true) []))):=by kernel_rfl
structure PR (l1 l2:Aw) (n m:Nat):Prop where
 h1:n<=l1.length
 h2:m<=l2.length
 e:l1.take n=l2.take m
 hb:n < 100000
theorem PR.len {l1 l2:Aw} {n m:Nat} (h:PR l1 l2 n m):n=m:=by
 have:=congrArg List.length h.e;rw[zO,zO]at this;have:=h.h1;have:=h.h2;omega
theorem PR.at {l1 l2:Aw} {n m i:Nat} (h:PR l1 l2 n m) (hi:i < n):List.getD l1 i (EK.BL Ah)=List.getD l2 i (EK.BL Ah):=by
 have e:=congrArg (fun l=>l[i]?) h.e;simp only[zu]at e;rw[zJ hi,zJ (by rw[<-h.len];exact hi)]at e;rw[zK,zK,e]
theorem mn {l1 l2:Aw} {n m:Nat} (h:PR l1 l2 n m):∀(k i:Nat),n - i=k->i<=n->AX xI 22 A6 (fun v _=>v= .bool true) (ux l1 l2 n m (i:Nat)):=by
 have hb:=h.hb;have h1:=h.h1;have h2:=h.h2;have hl:=h.len;intro k;induction k with
 | zero=>
  intro i hk hi;refine Bq dX.pf [] [] wK [] (by kernel_rfl) (show 22<=22 from zA _) (fun v _=>v= .bool true) (fun _=>False) (fun v H h=>h) (fun c h=>h.elim) (n:=300) ?_;rw[qd];exact AZ (zL (by omega)) rfl
 | succ k ih=>
  intro i hk hi;have hin:i < n:=by omega
  refine Bq dX.pf [] [] wK [] (by kernel_rfl) (show 22<=22 from zA _) (fun _ _=>False) (fun c=>c=ux l1 l2 n m ((i+1:Nat):Int)) (fun v H h=>h.elim) (fun c hc=>?_) (n:=300) ?_
  ·rw[hc];exact ih (i+1) (by omega) (by omega)
  ·rw[qd];(conv=>zeta)
   have hw:IntKind.wrap .i64 ((i:Int)+1)=((i+1:Nat):Int):=by rw[wrap64 (by omega) (by omega)];rfl
   rw[hw];simp only[zH,zN];rw[h.at hin];simp only[AA2,ABm,ABW];exact AB (zE (by omega)) (AB (EI hin) (AB (Gc (by omega)) (AB (EI (by omega)) (AB (Gc (by omega)) (AZ rfl (by first | exact rfl | exact trivial))))))
def xv (args:AL) (objs:BN):GT:=match args,objs with
 | [.slice (some ⟨20,0,some 0⟩) n 18446744073709551616,.slice (some ⟨21,0,some 0⟩) m 18446744073709551616],[.vec [.int .i64,.str,.bool,.int .i64,.int .i64,.int .i64] l1 _,.vec [.int .i64,.str,.bool,.int .i64,.int .i64,.int .i64] l2 _]=> .ask (PR l1 l2 n m) (.ret ⟨.bool true,[],[]⟩)
 | _,_=> .fail
theorem oG:CY Tryz.prog AI A6 (Ai AI 20 [] xv):=by
 refine BF dX.all (by kernel_rfl) (n:=BD A6) (by kernel_rfl) (by kernel_rfl) fun argsc objs x hx hro=>?_
 clear hro;unfold xv at hx;split at hx
 ·rename_i n m l1 r1 l2 r2;simp only[GT.run]at hx;split at hx
  ·rename_i h;cases hx
   refine⟨VC (by kernel_rfl),Ak.mono (AX.Fh (Q:=fun v _=>v= .bool true) ?_) fun v H e=>by subst e;exact Ch rfl⟩;refine Bq dX.pf [] [] wK [] (by kernel_rfl) (show 22<=22 from zA _) (fun _ _=>False) (fun c=>c=ux l1 l2 n m ((0:Nat):Int)) (fun v H h=>h.elim) (fun c hc=>?_) (n:=300) (c:=st A6 [Ao 20 n,Ao 21 m] (hp [.vec Ah l1 true,.vec Ah l2 true])) ?_
   ·rw[hc];exact mn h _ 0 rfl (za _)
   ·rw[uN];have e:(Int.ofNat n != Int.ofNat m)=false:=by rw[h.len];simp
    exact AZ e rfl
  ·cases hx
 ·cases hx
end Go.AD
namespace Go.AD
inductive Qr (ops:Array Oper) (x:Nat):Nat->Prop where
 | one {o:Oper} {d:Nat} (h:ops[x]? = some o) (hd:d∈Fx o):Qr ops x d
 | more {i:Nat} {o:Oper} {d:Nat} (hi:Qr ops x i) (h:ops[i]? = some o) (hd:d∈Fx o):Qr ops x d
section
variable {X:Ctx} {μ:Ae} {H H':AA} {ops:Array Oper} {t:Tr Value} {n:Nat} {tm:BR} {D idx:AW} {x:Nat} {o:Oper} {rest:List PE} {G:List (Nat × Nat)} {Fact:Nat->Oper->Nat->Prop}
theorem gf (h:FM X μ H ops t n tm D (.op x o::rest) (x::idx) G Fact) {i:Nat} (hd:Qr ops x i):i∉x::idx:=by
 induction hd with
 | one hx hd=>
  obtain⟨⟨o1,h1,h2⟩,_,_⟩:=h.J2;rw[hx]at h1;cases h1
  exact h2 _ hd
 | more _ hi hd ih=>exact(h.V8 _ _ hi ih).2 _ hd
theorem aE:∀{l:AW},Wa ops l->∀i∈l,i < ops.size
 | [],_,_,h=>by cases h
 | j::l,h,i,hi=>by
  obtain⟨⟨o,h1,_⟩,_,h3⟩:=h;rcases List.mem_cons.1 hi with e | e
  ·subst e;exact(Array.getElem?_eq_some_iff.1 h1).1
  ·exact aE h3 i e
theorem bI (h:FM X μ H ops t n tm D (.op x o::rest) (x::idx) G Fact) (hc:∀i,i < ops.size->i≠x->Qr ops x i):idx=[]:=by
 cases idx with
 | nil=>rfl
 | cons j r=>
  obtain⟨_,h2,h3⟩:=h.J2;have hj:j≠x:=fun e=>h2 (by rw[e];exact AAD ..)
  exact absurd (z8 _ (AAD ..)) (gf h (hc j (aE h3 j (AAD ..)) hj))
theorem UH (h:EY X.P ops D (.op x o::rest)=true):x∉D:=by
 unfold EY at h;simp only[zB,AAT]at h;intro hx;have:=h.1.1.1;rw[Ef.2 hx]at this;cases this
theorem ni (h:FM X μ H ops t n tm D (.op x o::rest) [x] G Fact) (l:AW):FM X μ H' ops (TF t l) n tm D (.op x o::rest) [x] [] Fact:=by
 refine⟨h.stat,h.wf,h.Uv,h.J2,h.V8,h.ec,h.sz,fun u hu=>?_,fun i o' hi hD hx=>?_,h.eZ,zx,fun b hb=>(by cases hb)⟩
 ·unfold TF;rcases Jm id t l u with e | e
  ·rw[e];exact .Bv _
  ·rw[e];exact h.tmp u hu
 ·rw[zP]at hx;subst hx;exact absurd hD (UH h.Uv)
def Vv (ops:Array Oper) (x:Nat) (o:Oper):Bool:=(List.range ops.size).all fun i=>Nat.beq i x||OX (Jx ops.toList o) i
theorem Vk (ho:ops[x]? = some o) (h:Vv ops x o=true):∀i,i < ops.size->i≠x->Qr ops x i:=by
 intro i hi hx;have h1:=List.all_eq_true.1 h i (List.mem_range.2 hi);simp only[AAd]at h1;rcases h1 with h1 | h1
 ·exact absurd (y9 h1) hx
 ·have h2:=Ef.1 h1;unfold Jx at h2;exact Pg (Qr ops x) (fun j oj hj hs d hd=> .more hs (by rw[<-zi];exact hj) hd) _ _ _ (fun j hj=> .one ho hj) (fun j hj=>by cases hj) i h2
def Qo:List B9->Bool
 | .Ee ops (.op x o::_)::k=>Vv ops x o&&C6 k
 | l=>C6 l
theorem jO {ks:FV} {g:AW} {f:Aj} {f':Frame} (h:Hh X μ H g f f') (hd:Qo f.todo=true):Hh X μ H' [] (Ir ks f) f':=by
 cases h with
 | plain fn t n tm todo todo' ds ds' r kd rd rd' ht hi hdd hr=>
  unfold Ir;simp only;split
  ·exact .plain _ _ _ _ _ _ _ _ _ _ _ _ (OT ht _) hi hdd hr
  ·exact .plain _ _ _ _ _ _ _ _ _ _ _ _ ht hi hdd hr
 | KA fn t n tm ops x o rest idx D G k k' ds ds' kd rd rd' ho hD hk hdd hr=>
  have hd:(Vv ops x o&&C6 k)=true:=hd;rw[zB]at hd;have hn:=bI hD (Vk ho hd.1);subst hn;unfold Ir;simp only;split
  ·exact .KA fn _ n tm ops x o rest [] D [] k k' ds ds' kd rd rd' ho (ni hD _) hk hdd hr
  ·refine .KA fn _ n tm ops x o rest [] D [] k k' ds ds' kd rd rd' ho ⟨hD.stat,hD.wf,hD.Uv,hD.J2,hD.V8,hD.ec,hD.sz,hD.tmp,fun i o' hi hDi hx=>?_,hD.eZ,zx,fun b hb=>(by cases hb)⟩ hk hdd hr;rw[zP]at hx;subst hx;exact absurd hDi (UH hD.Uv)
theorem bY {ks:FV} {g:AW} {l:List Aj} {l':List Frame} (h:Dv X μ H g l l') (hd:(l.all fun f=>Qo f.todo)=true):Dv X μ H' [] (l.map (Ir ks)) l':=by
 induction h with
 | nil=>exact .nil
 | cons hf _ ih=>
  simp only[AAG,zB]at hd;exact .cons (g:=[]) (gs:=[]) (jO hf hd.1) (ih hd.2)
theorem b7 {N:Nat} {ks:FV} {bs:AW} {c:BT} {Φ:Bz} (h1:C6 c.fr.todo=true) (h2:(c.cs.all fun f=>Qo f.todo)=true) (hr:A5 X N (F7 ks bs c) Φ):A5 X N c Φ:=by
 intro base W0 hb hok hplan cs0 μ fr cs W hm;refine hr base W0 hb hok hplan cs0 μ fr cs W ?_;obtain⟨hH,hlaid,g,gs,hfr,hcs,hnd⟩:=hm;exact⟨OD bs hH,hlaid,[],[],SY hfr h1,bY hcs h2,by simp⟩
theorem rO {ρ:Rn} {ν:Ae} (hρ:∀b i T,ρ b=some i->μ b=some T->ν i=some T) (h:FM X μ H ops t n tm D (.op x o::rest) [x] G Fact):FM X ν H' ops (t.Ym (Np ρ)) n tm D (.op x o::rest) [x] [] Fact:=by
 refine⟨h.stat,h.wf,h.Uv,h.J2,h.V8,h.ec,h.sz,fun u hu=>?_,fun i o' hi hD hx=>?_,h.eZ,zx,fun b hb=>(by cases hb)⟩
 ·have:=h.tmp u hu;unfold look at this ⊢;rw[Tr.Wh];cases hg:t.get u with
  | none=>exact .Bv _
  | some v=>rw[hg]at this;exact It hρ 8 _ _ this
 ·rw[zP]at hx;subst hx;exact absurd hD (UH h.Uv)
def fY (ρ:Rn):Aj->Option Aj
 | ⟨fn,t,n,.Ee ops (.op x o::rest)::k,ds,r,kd,rd⟩=>bif Vv ops x o then(match P0 ρ k,ca ρ ds,lT ρ rd with
  | some k',some ds',some rd'=>some ⟨fn,t.Ym (Np ρ),n,.Ee ops (.op x o::rest)::k',ds',r,kd,rd'⟩
  | _,_,_=>none)else none
 | f=>Qv ρ none f
def To (ρ:Rn):List Aj->Option (List Aj)
 | []=>some []
 | f::r=>match fY ρ f,To ρ r with
  | some g,some l=>some (g::l)
  | _,_=>none
theorem ZE {ρ:Rn} {ν:Ae} (hρ:∀b i T,ρ b=some i->μ b=some T->ν i=some T) {g:AW} {l l1:List Aj} {l':List Frame} (h:To ρ l=some l1) (hr:Dv X μ H g l l'):Dv X ν H' [] l1 l':=by
 induction hr generalizing l1 with
 | nil=>cases h;exact .nil
 | cons hf _ ih=>
  simp only[To]at h;split at h
  ·rename_i f1 m e1 e2;cases h
   refine .cons (g:=[]) (gs:=[]) ?_ (ih e2);cases hf with
   | plain fn t n tm todo todo' ds ds' r kd rd rd' ht hi hd hr=>
    unfold fY at e1;split at e1
    ·rename_i heq;cases heq
     cases hi with
     | cons h1 _=>cases h1
    ·simp only[Qv]at e1;split at e1
     ·rename_i a b c h1 h2 h3;cases e1
      exact .plain _ _ _ _ _ _ _ _ _ _ _ _ (Rx hρ ht) (I5 hρ h1 hi) (JG hρ h2 hd) (KX hρ h3 hr)
     ·cases e1
   | KA fn t n tm ops x o rest idx D G k k' ds ds' kd rd rd' ho hD hk hd hr=>
    simp only[fY]at e1;cases hc:Vv ops x o
    ·simp only[hc,zC]at e1;cases e1
    ·simp only[hc,y8]at e1;have hn:=bI hD (Vk ho hc);subst hn;split at e1
     ·rename_i a b c h1 h2 h3;cases e1
      exact .KA fn _ n tm ops x o rest [] D [] _ k' _ ds' kd _ rd' ho (rO hρ hD) (I5 hρ h1 hk) (JG hρ h2 hd) (KX hρ h3 hr)
     ·cases e1
  ·cases h
end
def sP (N:Nat) (Av ids:AW) (live:AW) (c:BT):Option BT:=
 match Qv (Fw N ids) (some live) c.fr,To (Fw N ids) c.cs,RB (Fw N ids) c.H.m Av with
 | some fr,some cs,some m=>some ⟨fr,cs,⟨m,N+ids.length⟩⟩
 | _,_,_=>none
section
variable {X:Ctx} {N:Nat}
theorem de {M:Nat} (hMN:M<=N) {Av ids live:AW} {c c':BT} {Φ:Bz} (hl:(X.laid.all fun p=>Nat.blt p.1 N)=true) (h:sP N Av ids live c=some c') (hr:A5 X M c' Φ):A5 X M c Φ:=by
 intro base W0 hb hok hplan cs0 μ fr cs W hm;suffices hs:∃μ',JL X base W0 μ' c' fr cs W by
  obtain⟨μ',hm'⟩:=hs;exact hr base W0 hb hok hplan cs0 μ' fr cs W hm'
 obtain⟨hH,hlaid,g,gs,hfr,hcs,hnd⟩:=hm;unfold sP at h;split at h
 ·rename_i fr1 cs1 m1 e1 e2 e3;cases h
  let ν:Ae:=fun i=>(DF N ids i).bind μ
  have hν:∀b i T,Fw N ids b=some i->μ b=some T->ν i=some T:=by
   intro b i T h1 h2;show(DF N ids i).bind μ=_;rw[Fi h1];exact h2
  have hν':∀b i T,Fw N ids b=some i->ν i=some T->μ b=some T:=by
   intro b i T h1 h2;have h2:(DF N ids i).bind μ=some T:=h2;rw[Fi h1]at h2;exact h2
  have hlow:∀i,i < N->ν i=μ i:=by
   intro i hi;show(DF N ids i).bind μ=_;unfold DF;rw[zJ hi];rfl
  refine⟨ν,⟨?_,?_,?_,?_,?_,hH.size,hH.below,hH.out,hH.os,?_,?_,hH.grow⟩,?_,[],[],?_,ZE hν e2 hcs,by simp⟩
  ·intro i o1 hi T hT;obtain⟨b,o,r1,r2,r3⟩:=B6 e3 i o1 hi;obtain⟨o',q1,q2⟩:=hH.obj b o r2 T (hν' _ _ _ r1 hT);exact⟨o',q1,Z9 hν r3 q2⟩
  ·intro i o1 hi hro T hT hv;obtain⟨b,o,r1,r2,r3⟩:=B6 e3 i o1 hi;exact hH.own b o r2 (by rw[<-(HN r3).1];exact hro) T (hν' _ _ _ r1 hT) (fun hw=>hv ((G3 r3 T).2 hw))
  ·intro i1 i2 o1 o2 h1 h2 T1 T2 t1 t2 v1 v2 hcc hrr;obtain⟨b1,p1,r1,r2,r3⟩:=B6 e3 i1 o1 h1;obtain⟨b2,p2,s1,s2,s3⟩:=B6 e3 i2 o2 h2;have:=hH.inj b1 b2 p1 p2 r2 s2 T1 T2 (hν' _ _ _ r1 t1) (hν' _ _ _ s1 t2) (fun hw=>v1 ((G3 r3 T1).2 hw)) (fun hw=>v2 ((G3 s3 T2).2 hw)) hcc (by rw[<-(HN r3).1,<-(HN s3).1];exact hrr);subst this;rw[r1]at s1;cases s1;rfl
  ·intro i hi;have hi:N+ids.length<=i:=hi;have hnone:DF N ids i=none:=by
    unfold DF;rw[zF (by omega),zY (by omega)]
   constructor
   ·cases hg:(AA.mk m1 (N+ids.length)).get i with
    | none=>rfl
    | some o1=>
     obtain⟨b,o,r1,_⟩:=B6 e3 i o1 hg;rw[Fi r1]at hnone;cases hnone
   ·show(DF N ids i).bind μ=none;rw[hnone];rfl
  ·intro i T hT;have hT:(DF N ids i).bind μ=some T:=hT;cases hbk:DF N ids i with
   | none=>rw[hbk]at hT;cases hT
   | some b=>rw[hbk]at hT;exact hH.bound b T hT
  ·obtain⟨φ,q⟩:=hH.abs;refine⟨fun i=>match DF N ids i with | some b=>φ b | none=>fun _=>False,?_,?_⟩
   ·intro i a ro T hi hT;obtain⟨b,o,r1,r2,r3⟩:=B6 e3 i _ hi;obtain⟨this,hext⟩:=(HN r3).2.2 a ro rfl;subst this;simp only[Fi r1];obtain⟨w1,w2⟩:=q.rep b a ro T r2 (hν' _ _ _ r1 hT);exact⟨w1.closed _ hext,w2⟩
   ·intro i a ro T hi hT i2 o2 T2 hi2 hT2 hne;obtain⟨b,o,r1,r2,r3⟩:=B6 e3 i _ hi;obtain⟨this,hext⟩:=(HN r3).2.2 a ro rfl;subst this;obtain⟨b2,p2,s1,s2,s3⟩:=B6 e3 i2 _ hi2;simp only[Fi r1,Fi s1];obtain⟨u1,u2⟩:=q.DG b a ro T r2 (hν' _ _ _ r1 hT) b2 p2 T2 s2 (hν' _ _ _ s1 hT2) (by rintro rfl;rw[r1]at s1;cases s1;exact hne rfl);exact⟨fun hv2=>u1 (fun hw=>hv2 ((G3 s3 T2).2 hw)),fun ea=>u2 (by rw[<-(HN s3).2.1];exact ea)⟩
  ·intro b T hT;rw[hlow b (AAI (hb b T hT) hMN)];exact hH.le b T hT
  ·intro gl hgl;obtain⟨T,h1,h2⟩:=hlaid gl hgl;have:gl < N:=by
    rw[ABk]at hgl;obtain⟨p,hp,hpe⟩:=hgl;have h3:=List.all_eq_true.1 hl p hp;rw[y9 hpe];exact VC h3
   exact⟨T,by rw[hlow gl this];exact h1,h2⟩
  ·generalize c.fr=cf at e1 hfr;cases hfr with
   | plain fn t n tm todo todo' ds ds' r kd rd rd' ht hi hd hrr=>
    simp only[Qv]at e1;split at e1
    ·rename_i a b c h1 h2 h3;cases e1
     exact .plain _ _ _ _ _ _ _ _ _ _ _ _ (S6 hν ht live) (I5 hν h1 hi) (JG hν h2 hd) (KX hν h3 hrr)
    ·cases e1
   | drawn fn t n tm ops BJ idx D G k k' ds ds' kd rd rd' hD hk hd hrr=>
    simp only[Qv]at e1;split at e1
    ·rename_i a b c h1 h2 h3;exact absurd rfl (KK h1 _ _ _)
    ·cases e1
 ·cases h
end
def Stop.dL (X:Ctx) (ks:FV) (S:Stop) (c:BT):Option BT:=
 match FD X c with
 | some c1=>bif C6 c1.fr.todo&&(c1.cs.all fun f=>Qo f.todo)then
  (bif Nat.ble S.N (F7 ks (S.ids c1) c1).H.next&&(S.ids (F7 ks (S.ids c1) c1)).all (fun b=>Nat.blt b (F7 ks (S.ids c1) c1).H.next)then
   sP S.N (S.Xi++S.ids (F7 ks (S.ids c1) c1)) (S.ids (F7 ks (S.ids c1) c1)) S.live (F7 ks (S.ids c1) c1)else none)else none
 | none=>none
theorem V3 {X:Ctx} {S:Stop} {ks:FV} {M:Nat} (hM:M<=S.N) (hl:(X.laid.all fun p=>Nat.blt p.1 S.N)=true) {c c2:BT} {Φ:Bz} (hc:S.dL X ks c=some c2) (h:A5 X M c2 Φ):A5 X M c Φ:=by
 unfold Stop.dL at hc;split at hc
 ·rename_i c1 h1;cases hd:(C6 c1.fr.todo&&(c1.cs.all fun f=>Qo f.todo))
  ·simp only[hd,zC]at hc;cases hc
  ·simp only[hd,y8]at hc;simp only[zB]at hd;cases hb:(Nat.ble S.N (F7 ks (S.ids c1) c1).H.next&&(S.ids (F7 ks (S.ids c1) c1)).all (fun b=>Nat.blt b (F7 ks (S.ids c1) c1).H.next))
   ·simp only[hb,zC]at hc;cases hc
   ·simp only[hb,y8]at hc;have hr:=de (X:=X) hM hl hc h;exact A5.bind (Reach.Uf ((R6.step h1).reach (Φ:=fun c'=>c'=c1) rfl)) fun c' e=>e ▸ b7 hd.1 hd.2 hr
 ·cases hc
def pW (X:Ctx) (pf:Pf) (hs:List (Nat × Value)) (f:FuncId) (ids:AW) (S:Stop) (h1:BT->Bool) (S2:Stop) (h2:BT->Bool) (ks:FV) (Q:Bm) (R R2:Bz) (n:Nat):Bz:=
 Nat.rec (motive:=fun _=>Bz) (fun _=>False) (fun _ ih c=>match FC X f c with
  | some (v,H)=>Q v ((ids++Au 4 v).map H.get)
  | none=>bif h1 c then(match S.dL X ks c with
   | some c2=>R c2
   | none=>False)
   else bif h2 c then(match S2.dL X ks c with
    | some c2=>R2 c2
    | none=>False)
   else match VL X c with
    | some (b,ct,cf)=>bif b then ih cf else(ih ct/\ih cf)
    | none=>Oe X pf hs c ih) n
theorem tQ {X:Ctx} {pf:Pf} (hpf:HO X pf) {hs:List (Nat × Value)} {f:FuncId} {ids:AW} {M:Nat} {S S2:Stop} {h1 h2:BT->Bool} {ks:FV} (hl:(X.laid.all fun p=>Nat.blt p.1 M)=true) (hN:M<=S.N) (hN2:M<=S2.N) {Q:Bm} {R R2:Bz} {Q':Ih}
 (hQ:∀v H,Q v ((ids++Au 4 v).map H.get)->Q' v H) (hR:∀c,R c->AX X M f Q' c) (hR2:∀c,R2 c->AX X M f Q' c):∀(n:Nat) (c:BT),pW X pf hs f ids S h1 S2 h2 ks Q R R2 n c->AX X M f Q' c:=by
 have up:∀N,M<=N->(X.laid.all fun p=>Nat.blt p.1 N)=true:=fun N hMN=>by
  rw[AA7]at hl ⊢;intro p hp;exact y7 (AAf (VC (hl p hp)) hMN)
 intro n;induction n with
 | zero=>intro c h;cases h
 | succ n ih=>
  intro c h;have h:(match FC X f c with
   | some (v,H)=>Q v ((ids++Au 4 v).map H.get)
   | none=>bif h1 c then(match S.dL X ks c with
    | some c2=>R c2
    | none=>False)
    else bif h2 c then(match S2.dL X ks c with
     | some c2=>R2 c2
     | none=>False)
    else match VL X c with
     | some (b0,ct,cf)=>bif b0 then pW X pf hs f ids S h1 S2 h2 ks Q R R2 n cf else(pW X pf hs f ids S h1 S2 h2 ks Q R R2 n ct/\pW X pf hs f ids S h1 S2 h2 ks Q R R2 n cf)
     | none=>Oe X pf hs c (pW X pf hs f ids S h1 S2 h2 ks Q R R2 n)):=h
  split at h
  ·rename_i v H e;exact A5.here ⟨v,H,e,hQ v H h⟩
  ·cases hs:h1 c
   ·simp only[hs,zC]at h;cases hs2:h2 c
    ·simp only[hs2,zC]at h;split at h
     ·rename_i b0 ct cf hq;cases hb:b0
      ·simp only[hb,zC]at h;exact A5.bind (Reach.Uf (GZ (Φ:=fun c'=>pW X pf _ f ids S h1 S2 h2 ks Q R R2 n c') hq (fun _=>h.1) h.2)) fun c' hc=>ih c' hc
      ·simp only[hb,y8]at h;exact A5.bind (Reach.Uf (GZ (Φ:=fun c'=>pW X pf _ f ids S h1 S2 h2 ks Q R R2 n c') hq (fun e=>by rw[hb]at e;cases e) h)) fun c' hc=>ih c' hc
     ·exact A5.bind (Reach.Uf (KD hpf (KS h))) fun c' hc=>ih c' hc
    ·simp only[hs2,y8]at h;split at h
     ·rename_i c2 hc;exact V3 (X:=X) (S:=S2) hN2 (up _ hN2) hc (hR2 c2 h)
     ·cases h
   ·simp only[hs,y8]at h;split at h
    ·rename_i c2 hc;exact V3 (X:=X) (S:=S) hN (up _ hN) hc (hR c2 h)
    ·cases h
end Go.AD
namespace Go.AD
open Go.Proofs
def yJ:List GA:=[(BZ,Rq,Vx)]
theorem we:Ci yJ:= .other Qy R4 .nil
abbrev uK:Ctx:=Bp Tryz.prog AI (Cv yJ)
def eU:Stop:=⟨Az,2,2,27,[20,21,22,23,24,25,26],[0,5,6,7]⟩
def wW:Stop:=⟨AN,0,3,27,[20,21,22,23,24,25,26],[0,1,5]⟩
def yu:FV:=[(DV,[]),(AN,[5])]
def xS (ns nk:Nat) (row:List (EK.C [.tok])) (krow:Cq) (LS LK:FZ) (ls:Aw) (s:Int) (o:Value):BT:=
 ⟨⟨AN,EZ [(0,At 20),(1,int s),(5,At 27)],BD AN,[.code (A9 Tryz.prog AN [1,1,0,0]),.code (A9 Tryz.prog AN [1,1,0,1]),.code (A9 Tryz.prog AN [1,1,1])],[],false,.normal,none⟩,[],(hp (Rh ns nk row krow LS LK ls)).alloc (.cells [o] 0 false)⟩
def v7:Tr Value:=EZ [(5,At 29)]
def vA (ns nk:Nat) (row:List (EK.C [.tok])) (krow:Cq) (LS LK:FZ) (ls lo:Aw) (k m:Nat) (i:Int):BT:=
 ⟨⟨Az,EZ [(0,.func (.yield 28) ⟨[]⟩ ⟨[]⟩),(5,Ao 26 m),(6,int m),(7,int i)],BD Az,[.code (A9 Tryz.prog Az [1,0,0]),.inLoop (A9 Tryz.prog Az [1,0,0]),.inBlock 0],[],false,.normal,none⟩,
  [⟨DV,EZ [],BD DV,[Yn Tryz.prog (A9 Tryz.prog DV [1,0]) 10],[],false,.normal,none⟩,
   ⟨AN,v7,BD AN,[.inRangeFunc 28,.inBlock 0,.code (A9 Tryz.prog AN [1,1,1])],[⟨.collected 27,⟨[]⟩⟩],false,.normal,none⟩],
  ((((hp (Rh ns nk row krow LS LK ls)).alloc (.deferred (some []))).alloc (.loop ⟨.ready,none,AN,v7,BD AN,#[10],A9 Tryz.prog AN [1,1,0,1,0,0],A9 Tryz.prog AN [1,1,0,1,0,1],27⟩)).alloc (.cells [Ao 30 k] 0 false)).alloc (.vec Ah lo false)⟩
def dt (ids:AW) (l:List (EK.C [.tok])):List (EK.C [.tok]):=List.map (Np (Fw 27 ids)) l
def dO (ids:AW) (l:Cq):Cq:=YJ (Fw 27 ids) l
def mT (S:Stop) (h1:BT->Bool) (m:Nat) (Q:Bm) (R:Bz) (c:BT):Prop:=pW uK (Ax yJ) [(22,Ao 26 m)] AN [20,21,22,23,24,25,26] S h1 S (fun _=>false) yu Q R (fun _=>False) 900 c
def xN (ns nk:Nat) (row:List (EK.C [.tok])) (krow:Cq) (LS LK:FZ) (ls:Aw) (s:Int):BT:=⟨(xS ns nk row krow LS LK ls s (Ao 28 0)).fr,[],(xS ns nk row krow LS LK ls s (Ao 28 0)).H.alloc (.vec Ah [] false)⟩
theorem sF (ns nk:Nat) (row:List (EK.C [.tok])) (krow:Cq) (LS LK:FZ) (ls:Aw) (s m:Nat) (Q:Bm) (R:Bz):mT wW (fun c=>Il AN 2 c) m Q R (st AN [At 20,int s] (hp (Rh ns nk row krow LS LK ls)))=(
 (R (xS ns nk (dt [27] row) (dO [27] krow) LS LK ls (s:Int) (Value.slice none 0 0)))):=by kernel_rfl
theorem uA (ns nk:Nat) (row:List (EK.C [.tok])) (krow:Cq) (LS LK:FZ) (ls:Aw) (s m:Nat) (Q:Bm) (R:Bz):mT eU (fun c=>eU.here c) m Q R (xN ns nk row krow LS LK ls s)=(
 let a:Value:= .func (Fn.yield 32) ⟨[]⟩ ⟨[]⟩;(0 < ns)/\(bif decide ((s:Int) < Int.ofNat ns)then(bif decide (0<=(s:Int))&&Nat.blt (s:Int).toNat ns then(bif Nat.blt (0+(s:Int).toNat) row.length then(IZ (SK.enc SK.tok (List.getD row (0+(s:Int).toNat) (EK.BL [SK.tok]))) (Prod.snd (22,Ao 26 m)))/\((a:Value)=a)/\(R (vA ns nk (dt [31,32,27,28] row) (dO [31,32,27,28] krow) LS LK ls ([]:Aw) 0 m 0))else False)else False)else(Q (Ao 28 0) [some (.cells [(At 21),(Ao 22 ns)] 0 false),some (.cells [(.bool true),(Ao 23 nk)] 0 false),some (.vec [SK.tok] row false),some (.vec EV krow false),some (.abs (Ct.mem Ah LS) false),some (.abs (Ct.mem Ah LK) false),some (.vec Ah ls false),some (.vec Ah [] false)]))):=by kernel_rfl
theorem lJ (ns nk:Nat) (row:List (EK.C [.tok])) (krow:Cq) (LS LK:FZ) (ls lo:Aw) (k m:Nat) (i:Int) (Q:Bm) (R:Bz):mT eU (fun c=>eU.here c) m Q R (vA ns nk row krow LS LK ls lo k m i)=(
 let b:=List.getD ls (0+i.toNat) (EK.BL Ah);let a:Prop:=Q (Ao 30 k) [some (.cells [(At 21),(Ao 22 ns)] 0 false),some (.cells [(.bool true),(Ao 23 nk)] 0 false),some (.vec [SK.tok] row false),some (.vec EV krow false),some (.abs (Ct.mem Ah LS) false),some (.abs (Ct.mem Ah LK) false),some (.vec Ah ls false),some (.vec Ah lo false)];(bif decide (i < (m:Int))then(bif decide (0<=i)&&Nat.blt i.toNat m then(bif Nat.blt (0+i.toNat) ls.length then(bif Int.ofNat k==100 then a else(bif true&&Nat.ble (0+k) lo.length&&BQ 56 (k+1)then(R (vA ns nk (dt [27,28,29,34] row) (dO [27,28,29,34] krow) LS LK ls (List.take k (List.drop 0 lo)++[(b.1,b.2.1,b.2.2.1,b.2.2.2.1,b.2.2.2.2.1,b.2.2.2.2.2)]) (k+1) m (IntKind.wrap .i64 (i+1))))else False))else False)else False)else a)):=by kernel_rfl
section
variable {ns nk:Nat} {row:List (EK.C [.tok])} {krow:Cq} {LS LK:FZ} {ls:Aw}
def iL (ns nk:Nat) (row:List (EK.C [.tok])) (krow:Cq) (LS LK:FZ) (ls:Aw) (v:Value) (H:AA):Prop:=v=Ao 30 (ls.take 100).length/\[20,21,22,23,24,25,26,30].map H.get=(Rh ns nk row krow LS LK ls++[AP.vec Ah (ls.take 100) false]).map some
theorem V1 {S:Stop} {h1:BT->Bool} {m:Nat} {Q:Bm} {R:Bz} {Q':Ih} {c:BT} (hS:27<=S.N) (hQ:∀v H,Q v (([20,21,22,23,24,25,26]++Au 4 v).map H.get)->Q' v H) (hR:∀c,R c->AX uK 27 AN Q' c) (h:mT S h1 m Q R c):AX uK 27 AN Q' c:=
 tQ we.pf (M:=27) (by kernel_rfl) hS hS hQ hR (fun c h=>h.elim) 900 c h
structure qR (ns:Nat) (row:List (EK.C [.tok])) (krow:Cq) (ls:Aw) (s:Nat):Prop where
 tC:∀v∈row,eX 27 v
 qC:∀p∈krow,eX 27 p.2
 hs:s < ns
 Pr:ns=row.length
 Jl:row.getD s (EK.BL [.tok])=Ao 26 ls.length
 SP:ls.length < 80000
 hm:ns < 80000
theorem lI {n:Nat} {H:AA} {v:Value} {l:LR} (hv:v=Ao 30 n) (h:([20,21,22,23,24,25,26]++Au 4 v).map H.get=l):[20,21,22,23,24,25,26,30].map H.get=l:=by
 subst hv;exact h
theorem o8 {s:Nat} (h:qR ns row krow ls s):∀(n i:Nat),ls.length - i=n->i<=ls.length->i<=100->AX uK 27 AN (iL ns nk row krow LS LK ls) (vA ns nk row krow LS LK ls (ls.take i) i ls.length i):=by
 have SP:=h.SP;intro n;induction n with
 | zero=>
  intro i hn hi h100;have e:i=ls.length:=by omega
  refine V1 (S:=eU) (h1:=fun c=>eU.here c) (m:=ls.length) (by decide) (Q:=fun v os=>v=Ao 30 i/\os=(Rh ns nk row krow LS LK ls++[AP.vec Ah (ls.take i) false]).map some) (R:=fun _=>False) (fun v H hq=>?_) (fun c h=>h.elim) ?_
  ·obtain⟨hv,hos⟩:=hq;have e2:ls.take 100=ls.take i:=by rw[zI (by omega),zI (by omega)]
   have e3:i=(ls.take 100).length:=by rw[e2,zO];omega
   exact⟨by rw[<-e3];exact hv,by rw[e2];exact lI hv hos⟩
  ·rw[lJ];exact AZ (zL (by omega)) ⟨rfl,rfl⟩
 | succ n ih=>
  intro i hn hi h100;have hlt:i < ls.length:=by omega
  by_cases hc:i=100
  ·refine V1 (S:=eU) (h1:=fun c=>eU.here c) (m:=ls.length) (by decide) (Q:=fun v os=>v=Ao 30 i/\os=(Rh ns nk row krow LS LK ls++[AP.vec Ah (ls.take i) false]).map some) (R:=fun _=>False) (fun v H hq=>?_) (fun c h=>h.elim) ?_
   ·obtain⟨hv,hos⟩:=hq;subst hc;have e3:100=(ls.take 100).length:=by rw[zO];omega
    exact⟨by rw[<-e3];exact hv,lI hv hos⟩
   ·rw[lJ];(conv=>zeta)
    simp only[zH,zN];exact AB (zE (by omega)) (AB (EI hlt) (AB (Gc hlt) (AB (by subst hc;rfl) ⟨by first | rfl | trivial,rfl⟩)))
  ·refine V1 (S:=eU) (h1:=fun c=>eU.here c) (m:=ls.length) (by decide) (Q:=fun _ _=>False) (R:=fun c=>c=vA ns nk row krow LS LK ls (ls.take (i+1)) (i+1) ls.length ((i+1:Nat):Int)) (fun v H hq=>hq.elim) (fun c hc=>?_) ?_
   ·rw[hc];exact ih (i+1) (by omega) (by omega) (by omega)
   ·rw[lJ];(conv=>zeta)
    have hw:IntKind.wrap .i64 ((i:Int)+1)=((i+1:Nat):Int):=by rw[wrap64 (by omega) (by omega)];rfl
    rw[hw];have e1:dt [27,28,29,34] row=row:=I4 _ row h.tC;have e2:dO [27,28,29,34] krow=krow:=Mp _ krow h.qC;rw[e1,e2];simp only[zH,zN,zc];have hl:(ls.take i).length=i:=by rw[zO];omega
    have e3:List.take i (ls.take i)=ls.take i:=zI (by omega);have e4:ls.take (i+1)=ls.take i++[DI ls i]:=by
     rw[AAy hlt]
     congr 2
     unfold DI;rw[zK,zG hlt];rfl
    have hb:(true&&Nat.ble i (ls.take i).length&&BQ 56 (i+1))=true:=by
     rw[hl,y7 (zA _),Lu (by omega)];rfl
    rw[e3,e4];exact AB (zE (by omega)) (AB (EI hlt) (AB (Gc hlt) (AZ (AAJ.2 (by show ¬(i:Int)=100;omega)) (AB hb rfl))))
theorem rh {s:Nat} (h:qR ns row krow ls s):AX uK 27 AN (iL ns nk row krow LS LK ls) (st AN [At 20,int s] (hp (Rh ns nk row krow LS LK ls))):=by
 have hs:=h.hs;have hm:=h.hm;refine V1 (m:=0) (S:=wW) (h1:=fun c=>Il AN 2 c) (by decide) (Q:=fun _ _=>False) (R:=fun c=>c=xS ns nk row krow LS LK ls s (.slice none 0 0)) (fun v H hq=>hq.elim) (fun c hc=>?_) ?_
 ·rw[hc];have e1:dt [31,32,27,28] row=row:=I4 _ row h.tC;have e2:dO [31,32,27,28] krow=krow:=Mp _ krow h.qC;refine A5.Gh 27 5 Ah [] [] (e:=0) (ro:=false) (b':=27) (o:=0) (s:=none) (by kernel_rfl) (by kernel_rfl) (by kernel_rfl) (by kernel_rfl) (by decide) ?_;have hT:AX uK 27 AN (iL ns nk row krow LS LK ls) (xN ns nk row krow LS LK ls s):=by
   refine V1 (m:=ls.length) (S:=eU) (h1:=fun c=>eU.here c) (by decide) (Q:=fun _ _=>False) (R:=fun c=>c=vA ns nk row krow LS LK ls [] 0 ls.length ((0:Nat):Int)) (fun v H hq=>hq.elim) (fun c hc=>?_) ?_
   ·rw[hc];exact o8 h _ 0 rfl (za _) (za _)
   ·rw[uA];(conv=>zeta);rw[e1,e2]
    simp only[zH,zN];exact⟨by omega,AB (zE (by show(s:Int) < (ns:Int);omega)) (AB (EI hs) (AB (Gc (by rw[<-h.Pr];exact hs)) ⟨⟨h.Jl⟩,by first | rfl | trivial,rfl⟩))⟩
  refine cast ?_ hT;kernel_rfl
 ·rw[sF];have e1:dt [27] row=row:=I4 _ row h.tC;have e2:dO [27] krow=krow:=Mp _ krow h.qC;rw[e1,e2]
end
structure V4 (x:Cm) (s:Nat):Prop where
 hs:s < x.AR.length
 hm:x.AR.length < 80000
 SP:(C7 x s).length < 80000
def Ux (x:Cm) (s:Int):Aw:=(C7 x s.toNat).take 100
def yA:Gk:=fun p rest os=>match p,rest,os with
 | .idx x,[.int .i64 s],[]=> .ask (s=(s.toNat:Int)/\V4 x s.toNat) (.ret ⟨Ao 21 (Ux x s).length,.idx x,[.vec Ah (Ux x s) false]⟩)
 | _,_,_=> .fail
theorem uX {x:Cm} {s:Nat} (h:V4 x s):Ak uK 26 (fun b=>20<=b/\b < 26) AN (fun v H=>v=Ao 30 (Ux x s).length/\H.get 20=some (.abs (.pack (.idx x)) false)/\H.get 30=some (.vec Ah (Ux x s) false)) (st AN [At 20,int s] (hp (Vi x))):=by
 have hs:=h.hs;have hrun:=rh (ns:=x.AR.length) (nk:=x.keys.length) (row:=rowP x.AR s (C7 x s).length) (krow:=Df 25 x.keys) (LS:=Ip x.AR s) (LK:=DY x.keys) (ls:=C7 x s) (s:=s) ⟨RJ (by decide),Q1 (by decide),hs,by unfold rowP;rw[zV,DS],Dp (by rw[DS];exact hs),h.SP,h.hm⟩;refine Ak.Ug (N2:=27) (D2:=fun b=>20<=b/\b < 27) (AX.iW hrun ?_) (fun base W0 μ W hD hH=>RS (Jc hs) hH fun z hz=>hD z hz) (VC (by kernel_rfl));intro v H base W0 W μ hQ hD hH;obtain⟨rfl,hos⟩:=hQ;unfold Rh at hos;simp only[zb,AAY,zQ,AAF,AAm,AAB]at hos;obtain⟨g20,g21,g22,g23,g24,g25,g26,g30⟩:=hos;have h30:=hH.lt g30;obtain⟨μ2,H2,r1,r2,r3,r4⟩:=U5 hH (x:=x) (s:=s) (w1:=26) (l1:=C7 x s) (fun z hz=>hD z (by simp at hz;omega)) hs g26 (hD 26 (by omega)) (by decide) g20 g21 g22 g23 g24 g25;refine⟨_,H2,⟨rfl,?_,?_⟩,fun v' hv=>⟨μ2,r1,r2,hv.mono r1⟩⟩
 ·rw[r3,KU (Jc hs)]
 ·rw[r4 30 (by decide) (by decide) (by omega)];exact g30
theorem sn:CY Tryz.prog AI AN (Ai AI 20 [true] (CX 20 yA)):=by
 refine aP we.all (by kernel_rfl) (by kernel_rfl) (n:=BD AN) (by kernel_rfl) (fun _=>rfl) fun s rest os=>?_
 unfold yA;split
 ·rename_i x s;rintro⟨hs,hok⟩;refine⟨VC (by kernel_rfl),fun objs hr=>?_⟩;obtain⟨hl,hO⟩:=ai x objs hr;refine⟨_,26,hO,VC (by kernel_rfl),?_⟩;have h:=uX hok;rw[<-hs]at h;refine Ak.sub (Ak.mono h ?_) fun b hb=>?_
  ·rintro v H ⟨rfl,g20,g30⟩;refine⟨[30],by decide,fun b hb=>(by rw[zP]at hb;rw[hb];decide),rfl,rfl,fun j b o hj ho=>?_,fun j o hj hm ho=>?_⟩
   ·match j,hj,ho with
    | 0,hj,ho=>cases hj;cases ho;exact⟨_,rfl,g30⟩
    | j+1,hj,_=>cases hj
   ·have hj:j=0:=by have hj:j < 0+1:=hj;omega
    subst hj;cases ho
    exact⟨_,rfl,g20⟩
  ·rw[hl];refine⟨b - 20,by omega,?_⟩;show b=if b - 20=0 then 20 else 20+(0+1)+(b - 20 - 1)
   split<;>omega
 ·exact trivial
theorem tq {base:Env} {W0 W:World} {μ:Ae} {H:AA} (h:AJ base W0 μ H W) {b n c:Nat} {k:EK} {l:List (EK.C k)} {ro:Bool} (hb:H.get b=some (.cells (Ag k l) k.length ro)) (h1:n<=c) (h2:c<=l.length) (h3:1<=c) (h4:c<=1000) (hk:k.length≠0) {x':Value} (hx:AH μ (.slice (some ⟨b,0,none⟩) n c) x'):AH μ (.slice (some ⟨b,0,some 0⟩) n Aa) x':=by
 cases hx with
 | slice _ _ _ _ cap' o' T hm hc ho=>
  obtain⟨o2,ho2,hr⟩:=h.obj b _ hb T hm;cases hr with
  | cells _ _ _ _ _ _ _ he hcl hsz hf=>
   rename_i arr t3 lo3 hi3;have hsa:arr.toList.length=arr.size:=zj;have hlen:=hcl.length;rw[zO,zT,BH,hsa]at hlen;have e:cap'=c:=by
    rcases hc with⟨_,e⟩ | ⟨e,_⟩
    ·exact e
    ·unfold Aa at e;omega
   subst e;have hTr:T.r≠0:=by
    intro h0;have:0 < l.length * k.length:=ABn (by omega) (by omega);omega
   have hmul:cap' * T.e<=l.length * k.length:=by rw[<-he];exact zo _ h2
   refine .Bk b 0 n Aa cap' o' T hm (.inr ⟨zA _,by omega,h1,by omega,.inr (by omega)⟩) (by rw[AAo];exact ho) hTr
structure IQ where
 b:Nat
 n:Nat
 c:Nat
 g:Value->AL
structure jG (get:AL->Option IQ):Prop where
 at_:∀{args w},get args=some w->args=w.g (.slice (some ⟨w.b,0,none⟩) w.n w.c)
 rel:∀{args w},get args=some w->∀{μ:Ae} {v v2:Value} {l:AL},(∀x,AH μ v x->AH μ v2 x)->Am μ (w.g v) l->Am μ (w.g v2) l
 bN:∀{args w},get args=some w->∀{μ:Ae} {l:AL},Am μ args l->∃x,AH μ (.slice (some ⟨w.b,0,none⟩) w.n w.c) x
def fO (k:EK) (w:IQ) (cs:AL) (e:Nat):Bool:=Nat.beq e k.length&&(Nat.ble w.n w.c&&(Nat.beq cs.length (w.c * k.length)&&(Nat.ble 1 w.c&&Nat.ble w.c 1000)))
def Xu (k:EK) (get:AL->Option IQ) (F:DO):DO:=fun args H=>match get args with
 | some ⟨b,n,c,g⟩=>match H.get b with
  | some (.cells cs e ro)=>match QV k c cs with
   | some l=>bif fO k ⟨b,n,c,g⟩ cs e then F (g (.slice (some ⟨b,0,some 0⟩) n 18446744073709551616)) (H.put b (.vec k l ro))else none
   | none=>none
  | _=>none
 | none=>none
def nZ (k:EK) (get:AL->Option IQ) (q:HL):HL:=fun args H K=>match get args with
 | some ⟨b,n,c,g⟩=>match H.get b with
  | some (.cells cs e ro)=>match QV k c cs with
   | some l=>bif fO k ⟨b,n,c,g⟩ cs e then q (g (.slice (some ⟨b,0,some 0⟩) n 18446744073709551616)) (H.put b (.vec k l ro)) K else False
   | none=>False
  | _=>False
 | none=>False
theorem bB {k:EK} {get:AL->Option IQ} {F:DO} {q:HL} (h:Xf F q):Xf (Xu k get F) (nZ k get q):=by
 intro X f hX args H K hq;unfold CP;rw[hX];show ∃v H',Xu k get F args H=some (v,H')/\K v H'
 unfold nZ at hq;unfold Xu;split at hq
 ·rename_i b n c g hw;split at hq
  ·rename_i cs e ro hg;split at hq
   ·rename_i l hl;cases hc:fO k ⟨b,n,c,g⟩ cs e
    ·rw[hc,zC]at hq;exact hq.elim
    ·rw[hc,y8]at hq;rw[y8];have:=h ⟨X.P,X.laid,fun _=>some F,X.BJ⟩ f rfl _ _ _ hq;exact this
   ·exact hq.elim
  ·exact hq.elim
 ·exact hq.elim
theorem Z5 {P:Program} {laid:Co} {f:FuncId} {F:DO} {k:EK} {get:AL->Option IQ} (hk:k.length≠0) (hg:jG get) (h:CY P laid f F):CY P laid f (Xu k get F):=by
 refine⟨h.1,fun base W0 μ H W args args' v H' hL hH hLa ha hF=>?_⟩;unfold Xu at hF;split at hF
 ·rename_i b n c g hw;split at hF
  ·rename_i cs e ro hgb;split at hF
   ·rename_i l hl;cases hc:fO k ⟨b,n,c,g⟩ cs e
    ·rw[hc,zC]at hF;cases hF
    ·rw[hc,y8]at hF;unfold fO at hc;simp only[zB]at hc;obtain⟨c0,c1,c2,c3,c4⟩:=hc;have e0:=y9 c0;subst e0;obtain⟨d1,d2,d3⟩:=Kk k hk _ _ _ hl;have c2:=y9 c2;have e1:cs=Ag k l:=by rw[d1,zI (by omega)]
     subst e1;have hx:∀x,AH μ (.slice (some ⟨b,0,none⟩) n c) x->AH μ (.slice (some ⟨b,0,some 0⟩) n 18446744073709551616) x:=fun x hx=>by
      have:=tq hH hgb (VC c1) (by omega) (VC c3) (VC c4) hk hx;unfold Aa at this;exact this
     obtain⟨x0,hx0⟩:=hg.bN hw ha;have hT:∃T,μ b=some T:=by
      cases hx0 with
      | slice _ _ _ _ _ _ T hm _ _=>exact⟨T,hm⟩
     rw[hg.at_ hw]at ha;have h2:=h.2 base W0 μ _ W _ args' v H' hL (hH.JF hgb) hLa (hg.rel hw hx ha) hF;refine Calls.mono h2 fun en W' ⟨v',μ',q1,q2,q3,q4⟩=>⟨v',μ',q1,q2,q3,?_⟩
     have hbl:=hH.lt hgb;refine⟨q4.le,q4.next,fun b0 hb hm=>?_⟩;obtain⟨r1,r2⟩:=q4.ghost b0 hb hm;refine⟨r1,?_⟩;rw[r2,AA.AU]
     by_cases hbw:b0=b
     ·obtain⟨T,hT⟩:=hT;rw[hbw,hT]at hm;cases hm
     ·rw[zF hbw]
   ·cases hF
  ·cases hF
 ·cases hF
def PT.hint (w:Value):PT->PT
 | .fail=> .fail
 | .ret x=> .ask (x.v=w) (.ret ⟨w,x.nx,x.news⟩)
 | .test c a b=> .test c (a.hint w) (b.hint w)
 | .ask p a=> .ask p (a.hint w)
def Zv (w:Value) (q:Gk):Gk:=fun p rest os=>(q p rest os).hint w
theorem NS {w:Value}:∀{t:PT} {x:Vm},(t.hint w).gt.run=some x->t.gt.run=some x
 | .fail,_,h=>h
 | .ret y,x,h=>by
  simp only[PT.hint,PT.gt,GT.run]at h ⊢;split at h
  ·rename_i e;rw[e];exact h
  ·cases h
 | .test c a b,x,h=>by
  cases c
  ·exact NS (t:=b) h
  ·exact NS (t:=a) h
 | .ask p a,x,h=>by
  simp only[PT.hint,PT.gt,GT.run]at h ⊢;split at h
  ·rename_i hp;rw[zJ hp];exact NS (t:=a) h
  ·cases h
theorem M0 (w:Value) (q:Gk):∀a o x,(CX 20 (Zv w q) a o).run=some x->(CX 20 q a o).run=some x:=IU fun _ _ _ _ hx=>NS hx
def ON (f:FuncId) (w:Value) (q:Gk):GA:=(f,Ai AI 20 [true] (CX 20 q),Cs AI 20 [true] (CX 20 (Zv w q)))
def TN:AL->Option IQ
 | [d,i,.slice (some ⟨b,0,none⟩) n c]=>some ⟨b,n,c,fun v=>[d,i,v]⟩
 | _=>none
def TS:AL->Option IQ
 | [d,.agg ⟨[a,e,.slice (some ⟨b,0,none⟩) n c]⟩]=>some ⟨b,n,c,fun v=>[d,.agg ⟨[a,e,v]⟩]⟩
 | _=>none
def uw:DO:=fun args H=>match args with
 | []=>some (.bool true,H)
 | _=>none
def yQ:HL:=fun args H K=>match args with
 | []=>K (.bool true) H
 | _=>False
def vR:Gk:=HK fun m=>IntKind.wrap .i64 ((m.b.length:Int) - m.Ej)
def x9:Gk:=FT (fun d=>int d.ops) id
def yY:Gk:=FT (fun _=>int 0) fun d=>⟨d.BB,d.BJ,d.AR,d.ops,false⟩
def Lm (yF:GA) (sy:GA):List GA:=[GQ AF [] xy,
 (By,Xu kB TN (Ai AI 20 [true] (CX 20 Pv)),nZ kB TN (Cs AI 20 [true] (CX 20 (Zv (int 0) Pv)))),
 yF,GQ FL [true] (CX 20 x9),GQ Ac [true] (CX 20 jh),GQ BG [true] (CX 20 ZK),
 (EB,Xu kI TS (Ai AI 20 [true] (CX 20 T6)),nZ kI TS (Cs AI 20 [true] (CX 20 (Zv (int 0) T6)))),
 sy,GQ Dg [true] (CX 20 yY),GQ AN [true] (CX 20 yA),GQ A6 [] xv,(Dj,uw,yQ)]
def Hq:GA:=(B0,Ai AI 20 [true] (CX 20 vR),Cs AI 20 [true] (CX 20 pG))
def E7:GA:=ON B0 (DE 0 0) vR
def Ly (n:Int):GA:=ON Al (int n) ZH
abbrev Ut:Ctx:=Bp Tryz.prog AI (Cv (Lm Hq (Ly 0)))
def wO (l:List B2) (m:Nat):PF:=Eo l (Mc m) 0 Oo
def yK (l:List B2) (d:Ab) (L:Nat->Aw) (u:Nat->Int):BN:=[.vec JQ l true,.cells [At 22,Ao 23 (L 0).length,Ao 24 (L 1).length,Ao 25 (L 2).length,Ao 26 (L 3).length,Ao 27 (L 4).length,int (u 0),int (u 1),int (u 2),int (u 3),int (u 4)] 0 false,.abs (.pack (.dev d)) false,.vec Ah (L 0) false,.vec Ah (L 1) false,.vec Ah (L 2) false,.vec Ah (L 3) false,.vec Ah (L 4) false]
def xk (l:List B2) (t:Ad) (d:Ab) (L:Nat->Aw) (u:Nat->Int):BN:=[.vec JQ l true,.cells [At 23,Ao 24 (L 0).length,Ao 25 (L 1).length,Ao 26 (L 2).length,Ao 27 (L 3).length,Ao 28 (L 4).length,int (u 0),int (u 1),int (u 2),int (u 3),int (u 4)] 0 false,.vec kI t false,.abs (.pack (.dev d)) false,.vec Ah (L 0) false,.vec Ah (L 1) false,.vec Ah (L 2) false,.vec Ah (L 3) false,.vec Ah (L 4) false]
def Ye (t:Tr Value) (todo:List B9):Aj:=⟨AO,t,BD AO,todo,[],false,.normal,none⟩
abbrev ny (p:AW):Code:=A9 Tryz.prog AO p
def cw (p q:AW) (n:Nat):List B9:=[.code (ny p),.inLoop (ny p),.inBlock n,.code (ny q)]
def r8 (l:List B2) (d:Ab) (L:Nat->Aw) (u:Nat->Int) (a k:Int):BT:=⟨Ye (EZ [(1,.int .u8 a),(2,.int .u16 k),(7,At 21),(8,.slice none 0 0),(37,int 0)]) (cw [1,1,1,1,1,0,1,0,0] [1,1,1,1,1,1] 0),[],hp (yK l d L u)⟩
def Va (l:List B2) (d:Ab) (L:Nat->Aw) (u:Nat->Int) (a k:Int) (t:Ad) (m:Nat) (i:Int):BT:=⟨Ye (EZ [(1,.int .u8 a),(2,.int .u16 k),(7,At 21),(8,Ao 22 m),(37,int i)]) (cw [1,1,1,1,1,0,1,0,0] [1,1,1,1,1,1] 0),[],hp (xk l t d L u)⟩
def qX (l:List B2) (d:Ab) (L:Nat->Aw) (u:Nat->Int) (a k:Int):BT:=⟨Ye (EZ [(1,.int .u8 a),(2,.int .u16 k),(7,At 21),(8,Ao 28 0),(37,int 0)]) (cw [1,1,1,1,1,0,1,0,0] [1,1,1,1,1,1] 0),[],(hp (yK l d L u)).alloc (.vec kI [] false)⟩
def VR (l:List B2) (d:Ab) (L:Nat->Aw) (u:Nat->Int) (k:Int) (t:Ad) (m:Nat) (o at_:Int):BT:=⟨Ye (EZ [(2,.int .u16 k),(7,At 21),(8,Ao 22 m),(12,int o),(17,int at_)]) [.code (ny [1,1,1,1,1,1,1,1,1,1,1,0,0]),.code (ny [1,1,1,1,1,1,1,1,1,1,1,0,1]),.code (ny [1,1,1,1,1,1,1,1,1,1,1,1])],[],hp (xk l t d L u)⟩
def OQ (l:List B2) (d:Ab) (L:Nat->Aw) (u:Nat->Int) (t:Ad) (m:Nat) (i:Int):BT:=⟨Ye (EZ [(7,At 21),(147,Ao 22 m),(148,int m),(149,int i)]) (cw [1,1,1,1,1,1,1,1,1,1,1,1,1,0,1,0,1,1,0,0] [1,1,1,1,1,1,1,1,1,1,1,1,1,1] 2),[],hp (xk l t d L u)⟩
def NC (l:List B2) (d:Ab) (L:Nat->Aw) (u:Nat->Int) (t:Ad) (m:Nat) (i s:Int):BT:=⟨Ye (EZ [(7,At 21),(20,int s),(147,Ao 22 m),(148,int m),(149,int i)]) (.code (ny [1,1,1,1,1,1,1,1,1,1,1,1,1,0,1,0,1,1,0,0,1,1,0,0,1,0]):: .code (ny [1,1,1,1,1,1,1,1,1,1,1,1,1,0,1,0,1,1,0,0,1,1,0,0,1,1]):: .inBlock 3:: .code (ny [1,1,1,1,1,1,1,1,1,1,1,1,1,0,1,0,1,1,0,0,1,1,1])::(cw [1,1,1,1,1,1,1,1,1,1,1,1,1,0,1,0,1,1,0,0] [1,1,1,1,1,1,1,1,1,1,1,1,1,1] 2).tail),[],hp (xk l t d L u)⟩
def VE (l:List B2) (d:Ab) (L:Nat->Aw) (u:Nat->Int) (i:Int):BT:=⟨Ye (EZ [(7,At 21),(195,int i)]) (cw [1,1,1,1,1,1,1,1,1,1,1,1,1,1,0,1,0,0] [1,1,1,1,1,1,1,1,1,1,1,1,1,1,1] 4),[],hp (yK l d L u)⟩
def wC (live:AW):Stop:=⟨AO,0,3,21,[20],live⟩
def LW:Stop:=wC [1,2,7,8,37]
def jF:Stop:=wC [2,7,8,12,17]
def I6:Stop:=wC [7,147,148,149]
def fH:Stop:=wC [7,20,147,148,149]
def Fu:Stop:=wC [7,195]
def HI (c:List GA) (S:Stop) (h1:BT->Bool) (S2:Stop) (h2:BT->Bool) (Q:Bm) (R R2:Bz) (x:BT):Prop:=NH Ut (Ax c) [] AO [] S h1 S2 h2 [] Q R R2 900 x
abbrev HR (S:Stop) (n:Nat) (c:BT):Bool:=S.here c&&Rg n c
abbrev bV (n:Nat) (c:BT):Bool:=Il AO n c
def Jo (_:BT):Bool:=false
theorem qx (l:List B2) (m:Nat) (a k:Int) (Q:Bm) (R:Bz):HI (Lm Hq (Ly 0)) LW (HR LW 0) LW Jo Q R (fun _=>False) (st AO [Ao 20 m,.int .u8 a,.int .u16 k] (hp [.vec JQ l true]))=(
 (m=l.length/\WI l (Mc m) 0 Oo)/\(3<=List.length [1,2,3])/\(((int (DX (PF.d (Eo l (Mc m) 0 Oo)) 6 (List.take 3 [1,2,3])).1):Value)=(int 0))/\(R (r8 l (DX (wO l m).d 6 [1,2,3]).2 (wO l m).L (wO l m).u a k))):=by kernel_rfl
theorem oF (l:List B2) (d:Ab) (L:Nat->Aw) (u:Nat->Int) (a k:Int) (Q:Bm) (R:Bz):HI (Lm Hq (Ly 0)) LW (HR LW 0) jF Jo Q R (fun _=>False) (qX l d L u a k)=(
 (Ab.down d=false/\Ba (Ab.BB d) 0=false)/\(bif decide (FU d 0 > 0)then(R (Va l d L u a k (List.take 0 (List.drop 0 [])++[0]) 1 1))else(R (Va l d L u a k [] 0 1)))):=by kernel_rfl
theorem iR (l:List B2) (d:Ab) (L:Nat->Aw) (u:Nat->Int) (a k:Int) (t:Ad) (m:Nat) (i:Int) (Q:Bm) (R R2:Bz):HI (Lm Hq (Ly 0)) LW (HR LW 0) jF (bV 22) Q R R2 (Va l d L u a k t m i)=(
 let b:=IntKind.wrap .i64 (i+1);(bif decide (i < 7)then(Ab.down d=false/\Ba (Ab.BB d) i=false)/\(bif decide (FU d i > 0)then(bif true&&Nat.ble (0+m) t.length&&BQ 8 (m+1)then(R (Va l d L u a k (List.take m (List.drop 0 t)++[i]) (m+1) b))else False)else(R (Va l d L u a k t m b)))else(N9 (id d))/\(kR (id d))/\(bif Ab.ops (id d) != Ab.ops d then(Q (.bool false) [])else(bif decide (IntKind.wrap .i64 (Int.ofNat m+1)≠0)then(R2 (VR l d L u k t m (Ab.ops d) (Int.tmod (IntKind.wrap .i64 a) (IntKind.wrap .i64 (Int.ofNat m+1)))))else False)))):=by kernel_rfl
theorem nV (l:List B2) (d:Ab) (L:Nat->Aw) (u:Nat->Int) (k:Int) (t:Ad) (m:Nat) (o:Int) (Q:Bm) (R:Bz):HI (Lm E7 (Ly 0)) Fu (HR Fu 4) Fu Jo Q R (fun _=>False) (VR l d L u k t m o 0)=(
 let a:=HU d (Bo d);(Rj d)/\(((int a.1):Value)=(int 0))/\(bif Ab.ops a.2 != IntKind.wrap .i64 (o+Int.ofNat m)then(Q (.bool false) [])else(R (VE l a.2 L u 0)))):=by kernel_rfl
theorem lY (l:List B2) (d:Ab) (L:Nat->Aw) (u:Nat->Int) (k:Int) (t:Ad) (m:Nat) (o at_:Int) (Q:Bm) (R:Bz):HI (Lm E7 (Ly 13)) I6 (HR I6 2) Fu Jo Q R (fun _=>False) (VR l d L u k t m o at_)=(
 let f:Prop:=Q (.bool false) [];let e:=HU d (Bo d);let b:=IntKind.wrap .i64 (at_ - 1);let a:=Kd d at_ false [IntKind.wrap .i64 (Int.tmod k 700)];let c:=HU a.2 (Bo a.2);(bif decide (at_ > 0)then(1=List.length [IntKind.wrap .i64 (Int.tmod k 700)]/\1 < 1000)/\(((int a.1):Value)=(int 0))/\(Rj a.2)/\(((int c.1):Value)=(int 13))/\(bif decide (at_ > 0)then(bif Ab.ops c.2 != IntKind.wrap .i64 (o+at_)then f else(bif decide (0<=IntKind.wrap .i64 (at_ - 1))&&Nat.ble b.toNat m&&decide (0<=0)&&Nat.ble 0 b.toNat then(R (OQ l ({ BB:=Ab.BB (id c.2),BJ:=Ab.BJ (id c.2),AR:=Ab.AR (id c.2),ops:=Ab.ops (id c.2),down:=false }) L u t (b.toNat - 0) 0))else False))else f)else(Rj d)/\(((int e.1):Value)=(int 13))/\(bif decide (at_ > 0)then(bif Ab.ops e.2 != IntKind.wrap .i64 (o+at_)then f else(bif decide (0<=IntKind.wrap .i64 (at_ - 1))&&Nat.ble b.toNat m&&decide (0<=0)&&Nat.ble 0 b.toNat then(R (OQ l ({ BB:=Ab.BB (id e.2),BJ:=Ab.BJ (id e.2),AR:=Ab.AR (id e.2),ops:=Ab.ops (id e.2),down:=false }) L u t (b.toNat - 0) 0))else False))else f))):=by kernel_rfl
theorem j4 (l:List B2) (d:Ab) (L:Nat->Aw) (u:Nat->Int) (t:Ad) (m:Nat) (i:Int) (Q:Bm) (R R2:Bz):HI (Lm E7 (Ly 0)) fH (bV 31) Fu (HR Fu 4) Q R R2 (OQ l d L u t m i)=(
 (bif decide (i < (m:Int))then(bif decide (0<=i)&&Nat.blt i.toNat m then(bif Nat.blt (0+i.toNat) t.length then(R (NC l d L u t m i (List.getD t (0+i.toNat) (EK.BL kI))))else False)else False)else(R2 (VE l d L u 0)))):=by kernel_rfl
theorem fg (l:List B2) (d:Ab) (L:Nat->Aw) (u:Nat->Int) (t:Ad) (m:Nat) (i:Int) (Q:Bm) (R:Bz):HI (Lm E7 (Ly 0)) I6 (HR I6 2) Fu Jo Q R (fun _=>False) (NC l d L u t m i 0)=(
 let c:=Ao 24 (L 0).length;let b:=((At 21):Value)=(At 21);let a:Value:= .pointer (some ⟨21,1,none⟩);(N9 d)/\(0=(0:Int)/\V4 (EG d) 0)/\((c:Value)=c)/\((a:Value)=a)/\((a:Value)=a)/\b/\(((int 0):Value)=(int 0))/\b/\(PR (Ux (EG d) 0) (L 0) (Ux (EG d) 0).length (L 0).length)/\(R (OQ l d L u t m (IntKind.wrap .i64 (i+1))))):=by kernel_rfl
theorem gF (l:List B2) (d:Ab) (L:Nat->Aw) (u:Nat->Int) (t:Ad) (m:Nat) (i:Int) (Q:Bm) (R:Bz):HI (Lm E7 (Ly 0)) I6 (HR I6 2) Fu Jo Q R (fun _=>False) (NC l d L u t m i 1)=(
 let e:=Ao 25 (L 1).length;let c:Value:= .pointer (some ⟨21,1,none⟩);let b:Value:= .pointer (some ⟨21,2,none⟩);let a:=((At 21):Value)=(At 21);(N9 d)/\(1=(1:Int)/\V4 (EG d) 1)/\((e:Value)=e)/\((b:Value)=b)/\((c:Value)=c)/\a/\(((int 1):Value)=(int 1))/\a/\(PR (Ux (EG d) 1) (L 1) (Ux (EG d) 1).length (L 1).length)/\(R (OQ l d L u t m (IntKind.wrap .i64 (i+1))))):=by kernel_rfl
theorem iS (l:List B2) (d:Ab) (L:Nat->Aw) (u:Nat->Int) (t:Ad) (m:Nat) (i:Int) (Q:Bm) (R:Bz):HI (Lm E7 (Ly 0)) I6 (HR I6 2) Fu Jo Q R (fun _=>False) (NC l d L u t m i 2)=(
 let e:=Ao 26 (L 2).length;let c:Value:= .pointer (some ⟨21,1,none⟩);let b:Value:= .pointer (some ⟨21,3,none⟩);let a:=((At 21):Value)=(At 21);(N9 d)/\(2=(2:Int)/\V4 (EG d) 2)/\((e:Value)=e)/\((b:Value)=b)/\((c:Value)=c)/\a/\(((int 2):Value)=(int 2))/\a/\(PR (Ux (EG d) 2) (L 2) (Ux (EG d) 2).length (L 2).length)/\(R (OQ l d L u t m (IntKind.wrap .i64 (i+1))))):=by kernel_rfl
theorem ia (l:List B2) (d:Ab) (L:Nat->Aw) (u:Nat->Int) (t:Ad) (m:Nat) (i:Int) (Q:Bm) (R:Bz):HI (Lm E7 (Ly 0)) I6 (HR I6 2) Fu Jo Q R (fun _=>False) (NC l d L u t m i 3)=(
 let e:=Ao 27 (L 3).length;let c:Value:= .pointer (some ⟨21,1,none⟩);let b:Value:= .pointer (some ⟨21,4,none⟩);let a:=((At 21):Value)=(At 21);(N9 d)/\(3=(3:Int)/\V4 (EG d) 3)/\((e:Value)=e)/\((b:Value)=b)/\((c:Value)=c)/\a/\(((int 3):Value)=(int 3))/\a/\(PR (Ux (EG d) 3) (L 3) (Ux (EG d) 3).length (L 3).length)/\(R (OQ l d L u t m (IntKind.wrap .i64 (i+1))))):=by kernel_rfl
theorem lG (l:List B2) (d:Ab) (L:Nat->Aw) (u:Nat->Int) (t:Ad) (m:Nat) (i:Int) (Q:Bm) (R:Bz):HI (Lm E7 (Ly 0)) I6 (HR I6 2) Fu Jo Q R (fun _=>False) (NC l d L u t m i 4)=(
 let e:=Ao 28 (L 4).length;let c:Value:= .pointer (some ⟨21,1,none⟩);let b:Value:= .pointer (some ⟨21,5,none⟩);let a:=((At 21):Value)=(At 21);(N9 d)/\(4=(4:Int)/\V4 (EG d) 4)/\((e:Value)=e)/\((b:Value)=b)/\((c:Value)=c)/\a/\(((int 4):Value)=(int 4))/\a/\(PR (Ux (EG d) 4) (L 4) (Ux (EG d) 4).length (L 4).length)/\(R (OQ l d L u t m (IntKind.wrap .i64 (i+1))))):=by kernel_rfl
theorem fk (l:List B2) (d:Ab) (L:Nat->Aw) (u:Nat->Int) (t:Ad) (m:Nat) (i:Int) (Q:Bm) (R:Bz):HI (Lm E7 (Ly 0)) I6 (HR I6 2) Fu Jo Q R (fun _=>False) (NC l d L u t m i 5)=(
 (N9 d)/\(R (OQ l d L u t m (IntKind.wrap .i64 (i+1))))):=by kernel_rfl
theorem iJ (l:List B2) (d:Ab) (L:Nat->Aw) (u:Nat->Int) (t:Ad) (m:Nat) (i:Int) (Q:Bm) (R:Bz):HI (Lm E7 (Ly 0)) I6 (HR I6 2) Fu Jo Q R (fun _=>False) (NC l d L u t m i 6)=(
 (N9 d)/\(R (OQ l d L u t m (IntKind.wrap .i64 (i+1))))):=by kernel_rfl
theorem ib (l:List B2) (d:Ab) (L:Nat->Aw) (u:Nat->Int) (i:Int) (Q:Bm) (R:Bz):HI (Lm E7 (Ly 0)) Fu (HR Fu 4) Fu Jo Q R (fun _=>False) (VE l d L u i)=(
 let a:=HU (id d) (Bo (id d));(bif decide (i < 7)then(((.tuple ⟨[(int (Lb d i fun m=>IntKind.wrap .i64 (((AS.b m).length:Int) - AS.Ej m))),(int (Lp d i))]⟩):Value)=(.tuple ⟨[(int 0),(int 0)]⟩))/\(R (VE l d L u (IntKind.wrap .i64 (i+1))))else(Rj (id d))/\(((int a.1):Value)=(int 0))/\(bif Ab.ops a.2==Ab.ops d then(Q (.bool true) [])else(Q (.bool false) [])))):=by kernel_rfl
theorem gm {μ:Ae} {v v2:Value} (h:∀x,AH μ v x->AH μ v2 x) {a b:Value} {l:AL} (hl:Am μ [a,b,v] l):Am μ [a,b,v2] l:=by
 cases hl with
 | cons g1 g2=>cases g2 with
  | cons g3 g4=>cases g4 with
   | cons g5 g6=>exact .cons g1 (.cons g3 (.cons (h _ g5) g6))
theorem fX:jG TN:=by
 constructor
 ·intro args w h;unfold TN at h;split at h
  ·cases h;rfl
  ·cases h
 ·intro args w h μ v v2 l hv hl;unfold TN at h;split at h
  ·cases h;exact gm hv hl
  ·cases h
 ·intro args w h μ l hl;unfold TN at h;split at h
  ·cases h
   cases hl with
   | cons g1 g2=>cases g2 with
    | cons g3 g4=>cases g4 with
     | cons g5 g6=>exact⟨_,g5⟩
  ·cases h
theorem kq:jG TS:=by
 constructor
 ·intro args w h;unfold TS at h;split at h
  ·cases h;rfl
  ·cases h
 ·intro args w h μ v v2 l hv hl;unfold TS at h;split at h
  ·cases h
   cases hl with
   | cons g1 g2=>cases g2 with
    | cons g3 g4=>
     obtain⟨ys,rfl,q⟩:=AH.Ce.1 g3;exact .cons g1 (.cons (AH.Ce.2 ⟨ys,rfl,gm hv q⟩) g4)
  ·cases h
 ·intro args w h μ l hl;unfold TS at h;split at h
  ·cases h
   cases hl with
   | cons g1 g2=>cases g2 with
    | cons g3 g4=>
     obtain⟨ys,rfl,q⟩:=AH.Ce.1 g3;have q:Am μ [_,_,_] ys.toList:=q;generalize ys.toList=yy at q;cases q with
     | cons r1 r2=>cases r2 with
      | cons r3 r4=>cases r4 with
       | cons r5 r6=>exact⟨_,r5⟩
  ·cases h
theorem KE {G G2:AL->BN->GT} {m:List Bool} (h:∀a o x,(G2 a o).run=some x->(G a o).run=some x):Xf (Ai AI 20 m G) (Cs AI 20 m G2):=fun X g hX args H K hk=>by
 have hctx:(⟨X.P,X.laid,fun _=>some (Ai AI 20 m G2),X.BJ⟩:Ctx).IN g=some (Ai AI 20 m G2):=rfl;obtain⟨v,H',h1,h2⟩:=Gq hctx hk;refine⟨v,H',?_,h2⟩;unfold CP at h1 ⊢;simp only[hX]at h1 ⊢;exact LL h h1
theorem tL:Xf uw yQ:=fun X g hX args H K hk=>by
 unfold yQ at hk;split at hk
 ·refine⟨_,H,?_,hk⟩;unfold CP;simp only[hX];rfl
 ·exact hk.elim
variable (hW:CY Tryz.prog AI Dj uw)
include hW in
theorem wm {b:Bool} {n:Int}:Ci (Lm (bif b then Hq else E7) (Ly n)):=by
 have hu:∀{r:List GA},Ci r->Ci ((bif b then Hq else E7)::r):=by
  intro r hr;cases b
  ·exact .other OR (KE (M0 _ _)) hr
  ·exact .other OR (KE Vs) hr
 exact .cons gH <| .other (Z5 (by decide) fX Sl) (bB (KE (M0 _ _))) <| hu <| .cons cZ <| .cons jI <| .cons fp <|
  .other (Z5 (by decide) kq cA) (bB (KE (M0 _ _))) <| .other eA (KE (M0 _ _)) <| .cons SB <| .cons sn <| .cons oG <| .other hW tL .nil
include hW in
theorem xD:Ci (Lm Hq (Ly 0)):=wm (b:=true) hW
include hW in
theorem KN {b:Bool} {n:Int} {S S2:Stop} {h1 h2:BT->Bool} {Q:Bm} {R R2:Bz} {x:BT} (hS:21<=S.N) (hS2:21<=S2.N) (hQ:∀v l,Q v l->v= .bool true) (hR:∀c,R c->AX Ut 21 AO (fun v _=>v= .bool true) c) (hR2:∀c,R2 c->AX Ut 21 AO (fun v _=>v= .bool true) c)
 (h:HI (Lm (bif b then Hq else E7) (Ly n)) S h1 S2 h2 Q R R2 x):AX Ut 21 AO (fun v _=>v= .bool true) x:=by
 have hp:HO Ut (Ax (Lm (bif b then Hq else E7) (Ly n))):=by
  have:=(wm hW (b:=b) (n:=n)).pf;have e:Cv (Lm (bif b then Hq else E7) (Ly n))=Cv (Lm Hq (Ly 0)):=by cases b<;>rfl
  rw[e]at this;exact this
 exact IH (hs:=[]) (f:=AO) (ids:=[]) (S:=S) (S2:=S2) (h1:=h1) (h2:=h2) (ks:=[]) (Q:=Q) (R:=R) (R2:=R2) (Q':=fun v _=>v= .bool true) hp (M:=21) (by kernel_rfl) hS hS2 (fun v H hq=>hQ _ _ hq) hR hR2 900 x h
def lU (m:AS):Int:=IntKind.wrap .i64 ((m.b.length:Int) - m.Ej)
structure WZ (d:Ab):Prop where
 yF:∀i:Nat,i < 7->Lb d i lU=0/\Lp d i=0
 sy:Rj d
 e:(HU d (Bo d)).1=0
 ops:(HU d (Bo d)).2.ops=d.ops
section
variable {l:List B2} {L:Nat->Aw} {u:Nat->Int} {k:Int}
include hW in
theorem WQ {d:Ab} (h:WZ d):∀(n i:Nat),7 - i=n->i<=7->AX Ut 21 AO (fun v _=>v= .bool true) (VE l d L u (i:Nat)):=by
 intro n;induction n with
 | zero=>
  intro i hn hi;refine KN hW (b:=false) (n:=0) (S:=Fu) (S2:=Fu) (h1:=HR Fu 4) (h2:=Jo) (Q:=fun v _=>v= .bool true) (R:=fun _=>False) (R2:=fun _=>False) (by decide) (by decide) (fun v l hq=>hq) (fun c h=>h.elim) (fun c h=>h.elim) ?_;show HI (Lm E7 (Ly 0)) _ _ _ _ _ _ _ _;rw[ib];refine AZ (zL (by omega)) ⟨h.sy,congrArg int h.e,AB (ABZ.2 h.ops) rfl⟩
 | succ n ih=>
  intro i hn hi;refine KN hW (b:=false) (n:=0) (S:=Fu) (S2:=Fu) (h1:=HR Fu 4) (h2:=Jo) (Q:=fun _ _=>False) (R:=fun c=>c=VE l d L u ((i+1:Nat):Int)) (R2:=fun _=>False) (by decide) (by decide) (fun v l hq=>hq.elim) (fun c hc=>?_) (fun c h=>h.elim) ?_
  ·rw[hc];exact ih (i+1) (by omega) (by omega)
  ·show HI (Lm E7 (Ly 0)) _ _ _ _ _ _ _ _;rw[ib];(conv=>zeta)
   have hw:IntKind.wrap .i64 ((i:Int)+1)=((i+1:Nat):Int):=by rw[wrap64 (by omega) (by omega)];rfl
   rw[hw];obtain⟨u1,u2⟩:=h.yF i (by omega);refine AB (zE (by omega)) ⟨?_,rfl⟩;unfold lU at u1;rw[u1,u2]
structure ju (d:Ab) (L:Nat->Aw) (s:Int):Prop where
 sc:N9 d
 lo:0<=s
 hi:s < 7
 es:s < 5->V4 (EG d) s.toNat/\PR (Ux (EG d) s) (L s.toNat) (Ux (EG d) s).length (L s.toNat).length
include hW in
theorem jy {d:Ab} (h:WZ d) {t:Ad} {m:Nat} (hm:m<=t.length) (hm2:m < 1000) (hs:∀i,i < m->ju d L (GP t i)):∀(n i:Nat),m - i=n->i<=m->AX Ut 21 AO (fun v _=>v= .bool true) (OQ l d L u t m (i:Nat)):=by
 intro n;induction n with
 | zero=>
  intro i hn hi;refine KN hW (b:=false) (n:=0) (S:=fH) (S2:=Fu) (h1:=bV 31) (h2:=HR Fu 4) (Q:=fun _ _=>False) (R:=fun _=>False) (R2:=fun c=>c=VE l d L u ((0:Nat):Int)) (by decide) (by decide) (fun v l hq=>hq.elim) (fun c h=>h.elim) (fun c hc=>?_) ?_
  ·rw[hc];exact WQ hW h _ 0 rfl (by omega)
  ·show HI (Lm E7 (Ly 0)) _ _ _ _ _ _ _ _;rw[j4];exact AZ (zL (by omega)) rfl
 | succ n ih=>
  intro i hn hi;have him:i < m:=by omega
  have hS:=hs i him;refine KN hW (b:=false) (n:=0) (S:=fH) (S2:=Fu) (h1:=bV 31) (h2:=HR Fu 4) (Q:=fun _ _=>False) (R:=fun c=>c=NC l d L u t m (i:Nat) (GP t i)) (R2:=fun _=>False) (by decide) (by decide) (fun v l hq=>hq.elim) (fun c hc=>?_) (fun c h=>h.elim) ?_
  ·rw[hc];have hw:IntKind.wrap .i64 ((i:Int)+1)=((i+1:Nat):Int):=by rw[wrap64 (by omega) (by omega)];rfl
   have hlo:=hS.lo;have hhi:=hS.hi;have hsc:=hS.sc;have hes:=hS.es;generalize GP t i=s at hlo hhi hes;refine KN hW (b:=false) (n:=0) (S:=I6) (S2:=Fu) (h1:=HR I6 2) (h2:=Jo) (Q:=fun _ _=>False) (R:=fun c=>c=OQ l d L u t m ((i+1:Nat):Int)) (R2:=fun _=>False) (by decide) (by decide) (fun v l hq=>hq.elim) (fun c hc=>by rw[hc];exact ih (i+1) (by omega) (by omega)) (fun c h=>h.elim) ?_;show HI (Lm E7 (Ly 0)) _ _ _ _ _ _ _ _;have hc:s=0∨s=1∨s=2∨s=3∨s=4∨s=5∨s=6:=by omega
   rcases hc with rfl | rfl | rfl | rfl | rfl | rfl | rfl
   ·rw[fg];(conv=>zeta);rw[hw];obtain⟨e1,e2⟩:=hes (by decide);exact⟨hsc,⟨rfl,e1⟩,rfl,rfl,rfl,rfl,rfl,rfl,e2,rfl⟩
   ·rw[gF];(conv=>zeta);rw[hw];obtain⟨e1,e2⟩:=hes (by decide);exact⟨hsc,⟨rfl,e1⟩,rfl,rfl,rfl,rfl,rfl,rfl,e2,rfl⟩
   ·rw[iS];(conv=>zeta);rw[hw];obtain⟨e1,e2⟩:=hes (by decide);exact⟨hsc,⟨rfl,e1⟩,rfl,rfl,rfl,rfl,rfl,rfl,e2,rfl⟩
   ·rw[ia];(conv=>zeta);rw[hw];obtain⟨e1,e2⟩:=hes (by decide);exact⟨hsc,⟨rfl,e1⟩,rfl,rfl,rfl,rfl,rfl,rfl,e2,rfl⟩
   ·rw[lG];(conv=>zeta);rw[hw];obtain⟨e1,e2⟩:=hes (by decide);exact⟨hsc,⟨rfl,e1⟩,rfl,rfl,rfl,rfl,rfl,rfl,e2,rfl⟩
   ·rw[fk,hw];exact⟨hsc,rfl⟩
   ·rw[iJ,hw];exact⟨hsc,rfl⟩
  ·show HI (Lm E7 (Ly 0)) _ _ _ _ _ _ _ _;rw[j4];simp only[zH,zN];exact AB (zE (by omega)) (AB (EI him) (AB (Gc (by omega)) rfl))
def CC (d:Ab) (n:Nat):Ad:=(allI n).filter fun i=>decide (FU d i > 0)
theorem MQ (d:Ab) (n:Nat):(CC d n).length<=n:=by
 have:=ABf (fun i=>decide (FU d i > 0)) (allI n);rw[JB]at this;exact this
theorem O9 (d:Ab) (n:Nat):CC d (n+1)=bif decide (FU d (n:Nat) > 0)then CC d n++[((n:Nat):Int)]else CC d n:=by
 unfold CC;rw[Sa,List.filter_append];cases h:decide (FU d (n:Nat) > 0)
 ·rw[zC,List.filter_cons_of_neg (by rw[h];decide),List.filter_nil,AAP]
 ·rw[y8,List.filter_cons_of_pos (by rw[h]),List.filter_nil]
structure ij (d:Ab):Prop where
 dn:d.down=false
 bad:∀i:Nat,i < 7->Ba d.BB i=false
 sc:N9 d
 rd:kR d
def XY (a:Int) (m:Nat):Int:=Int.tmod (IntKind.wrap .i64 a) (IntKind.wrap .i64 (Int.ofNat m+1))
include hW in
theorem jS {d:Ab} {a:Int} (h:ij d) (hK:AX Ut 21 AO (fun v _=>v= .bool true) (VR l d L u k (CC d 7) (CC d 7).length d.ops (XY a (CC d 7).length))):∀(n i:Nat),7 - i=n->i<=7->AX Ut 21 AO (fun v _=>v= .bool true) (Va l d L u a k (CC d i) (CC d i).length (i:Nat)):=by
 intro n;induction n with
 | zero=>
  intro i hn hi;have e:i=7:=by omega
  subst e;refine KN hW (b:=true) (n:=0) (S:=LW) (S2:=jF) (h1:=HR LW 0) (h2:=bV 22) (Q:=fun _ _=>False) (R:=fun _=>False) (R2:=fun c=>c=VR l d L u k (CC d 7) (CC d 7).length d.ops (XY a (CC d 7).length)) (by decide) (by decide) (fun v l hq=>hq.elim) (fun c h=>h.elim) (fun c hc=>by rw[hc];exact hK) ?_;show HI (Lm Hq (Ly 0)) _ _ _ _ _ _ _ _;rw[iR];(conv=>zeta)
  have hl:=MQ d 7;have hne:IntKind.wrap .i64 (Int.ofNat (CC d 7).length+1)≠0:=by
   rw[wrap64 (by show _<=((CC d 7).length:Int)+1;omega) (by show((CC d 7).length:Int)+1<=_;omega)];show((CC d 7).length:Int)+1≠0;omega
  exact AZ (zL (by omega)) ⟨h.sc,h.rd,AZ (by simp) (AB (zE hne) rfl)⟩
 | succ n ih=>
  intro i hn hi;have hi7:i < 7:=by omega
  refine KN hW (b:=true) (n:=0) (S:=LW) (S2:=jF) (h1:=HR LW 0) (h2:=bV 22) (Q:=fun _ _=>False) (R:=fun c=>c=Va l d L u a k (CC d (i+1)) (CC d (i+1)).length ((i+1:Nat):Int)) (R2:=fun _=>False) (by decide) (by decide) (fun v l hq=>hq.elim) (fun c hc=>by rw[hc];exact ih (i+1) (by omega) (by omega)) (fun c h=>h.elim) ?_;show HI (Lm Hq (Ly 0)) _ _ _ _ _ _ _ _;rw[iR];(conv=>zeta)
  have hw:IntKind.wrap .i64 ((i:Int)+1)=((i+1:Nat):Int):=by rw[wrap64 (by omega) (by omega)];rfl
  have hl:=MQ d i;have hc:(true&&Nat.ble (0+(CC d i).length) (CC d i).length&&BQ 8 ((CC d i).length+1))=true:=by
   rw[zN,y7 (zA _)];unfold BQ;rw[y7 (by omega),y7 (by omega)];rfl
  have ht:List.take (CC d i).length (List.drop 0 (CC d i))=CC d i:=by rw[zc,zI (zA _)]
  rw[hw,O9];refine AB (zE (by omega)) ⟨⟨h.dn,h.bad i hi7⟩,BX (fun e=>AB hc ?_) fun e=>?_⟩
  ·rw[e,ht,y8,zM];rfl
  ·rw[e,zC]
include hW in
theorem jW {d:Ab} {a:Int} (h:ij d) (hK:AX Ut 21 AO (fun v _=>v= .bool true) (VR l d L u k (CC d 7) (CC d 7).length d.ops (XY a (CC d 7).length))):AX Ut 21 AO (fun v _=>v= .bool true) (r8 l d L u a k):=by
 refine A5.qB 8 7 kI (b:=21) (o:=0) (s:=none) (by kernel_rfl) (by kernel_rfl) (by kernel_rfl) (by decide) ?_;have hT:AX Ut 21 AO (fun v _=>v= .bool true) (qX l d L u a k):=by
  refine KN hW (b:=true) (n:=0) (S:=LW) (S2:=jF) (h1:=HR LW 0) (h2:=Jo) (Q:=fun _ _=>False) (R:=fun c=>c=Va l d L u a k (CC d 1) (CC d 1).length ((1:Nat):Int)) (R2:=fun _=>False) (by decide) (by decide) (fun v l hq=>hq.elim) (fun c hc=>by rw[hc];exact jS hW h hK _ 1 rfl (by omega)) (fun c h=>h.elim) ?_;show HI (Lm Hq (Ly 0)) _ _ _ _ _ _ _ _;rw[oF,O9];refine⟨⟨h.dn,h.bad 0 (by omega)⟩,BX (fun e=>?_) fun e=>?_⟩
  ·have e:decide (FU d ((0:Nat):Int) > 0)=true:=e;rw[e];rfl
  ·have e:decide (FU d ((0:Nat):Int) > 0)=false:=e;rw[e];rfl
 refine cast ?_ hT;kernel_rfl
include hW in
theorem wE {d:Ab} {t:Ad} {o:Int} (h1:Rj d) (h2:(HU d (Bo d)).1=0) (h3:(HU d (Bo d)).2.ops=IntKind.wrap .i64 (o+Int.ofNat t.length)) (hF:WZ (HU d (Bo d)).2):AX Ut 21 AO (fun v _=>v= .bool true) (VR l d L u k t t.length o 0):=by
 refine KN hW (b:=false) (n:=0) (S:=Fu) (S2:=Fu) (h1:=HR Fu 4) (h2:=Jo) (Q:=fun _ _=>False) (R:=fun c=>c=VE l (HU d (Bo d)).2 L u ((0:Nat):Int)) (R2:=fun _=>False) (by decide) (by decide) (fun v l hq=>hq.elim) (fun c hc=>by rw[hc];exact WQ hW hF _ 0 rfl (by omega)) (fun c h=>h.elim) ?_;show HI (Lm E7 (Ly 0)) _ _ _ _ _ _ _ _;rw[nV];exact⟨h1,congrArg int h2,AZ (by rw[h3];simp) rfl⟩
def DL (d:Ab) (k:Int) (at_:Int):Ab:=(Kd d at_ false [IntKind.wrap .i64 (Int.tmod k 700)]).2
theorem WO (d:Ab) (k at_:Int):DL d k at_=(Kd d at_ false [IntKind.wrap .i64 (Int.tmod k 700)]).2:=rfl
def PM (d:Ab):Ab:=⟨d.BB,d.BJ,d.AR,d.ops,false⟩
include hW in
theorem vo {d:Ab} {t:Ad} {o:Int} {j:Nat} {x:Int} (hx:x=((j+1:Nat):Int)) (hj:j < t.length) (hj2:j < 1000) (h0:(Kd d x false [IntKind.wrap .i64 (Int.tmod k 700)]).1=0) (h1:Rj (DL d k x)) (h2:(HU (DL d k x) (Bo (DL d k x))).1=13)
 (h3:(HU (DL d k x) (Bo (DL d k x))).2.ops=IntKind.wrap .i64 (o+x)) (hF:WZ (PM (HU (DL d k x) (Bo (DL d k x))).2)) (hs:∀i,i < j->ju (PM (HU (DL d k x) (Bo (DL d k x))).2) L (GP t i)):
 AX Ut 21 AO (fun v _=>v= .bool true) (VR l d L u k t t.length o x):=by
 have hw:IntKind.wrap .i64 (x - 1)=((j:Nat):Int):=by rw[hx,wrap64 (by omega) (by omega)];omega
 have hp:decide (x > 0)=true:=zE (by omega);refine KN hW (b:=false) (n:=13) (S:=I6) (S2:=Fu) (h1:=HR I6 2) (h2:=Jo) (Q:=fun _ _=>False) (R:=fun c=>c=OQ l (PM (HU (DL d k x) (Bo (DL d k x))).2) L u t j ((0:Nat):Int)) (R2:=fun _=>False) (by decide) (by decide) (fun v l hq=>hq.elim) (fun c hc=>by rw[hc];exact jy hW hF (by omega) (by omega) hs _ 0 rfl (za _)) (fun c h=>h.elim) ?_;show HI (Lm E7 (Ly 13)) _ _ _ _ _ _ _ _;rw[lY];(conv=>zeta);rw[hw]
 simp only[<-WO];simp only[zH,ABD];generalize DL d k x=d1 at h1 h2 h3 ⊢;refine AB hp ⟨⟨rfl,by decide⟩,congrArg int h0,h1,congrArg int h2,AB hp (AZ ?_ (AB ?_ rfl))⟩
 ·show(Ab.ops (HU d1 (Bo d1)).2 != _)=false;rw[h3];simp
 ·rw[y7 (Nat.le_of_lt hj),y7 (za _),zE (by omega)];rfl
end
end Go.AD
namespace Go.AD
open Go.Proofs
def CJ (d:Ab) (t:Nat):AS:=CV d (t:Nat)
theorem iA {n t:Nat}:((t:Nat):Int)∈allI n ↔ t < n:=by
 unfold allI;rw[List.mem_map];constructor
 ·rintro⟨a,ha,e⟩;have:=List.mem_range.1 ha;omega
 ·intro h;exact⟨t,List.mem_range.2 h,rfl⟩
theorem NJ {n:Nat} {x:Int} (h:x∈allI n):∃t:Nat,x=(t:Int)/\t < n:=by
 unfold allI at h;obtain⟨a,ha,e⟩:=List.mem_map.1 h;exact⟨a,e.symm,List.mem_range.1 ha⟩
structure Y4 (ts:Ad):Prop where
 all:∀x∈ts,∃t:Nat,x=(t:Int)/\t < 7
theorem X5 {d:Ab} {a:Int} {b:Bool} {ks:Ad} (hp:d.BJ=some ⟨a,b,ks⟩) (h:1 < a) (g:List AS->List AS) (f:BP->Bool):MZ d g f=(0,⟨g d.BB,some ⟨a - 1,b,ks⟩,d.AR,J3 d.ops,d.down⟩):=by
 unfold MZ;rw[hp]
 show(bif decide (1 < a)then _ else _)=_;rw[zE h];rfl
theorem ch {d:Ab} {a:Int} {b:Bool} {ks:Ad} (hp:d.BJ=some ⟨a,b,ks⟩) (h:¬1 < a) (g:List AS->List AS):MZ d g (fun _=>false)=(13,⟨Ff ks d.BB d.BB.length,none,d.AR,J3 d.ops,true⟩):=by
 unfold MZ;rw[hp]
 show(bif decide (1 < a)then _ else _)=_;rw[zL h];rfl
theorem Tv {d:Ab} {g:AS->AS} {s:Nat} {P:Option BP} {S O:Int} {D:Bool} (hs:s < d.BB.length) (t:Nat):CJ ⟨D6 g (s:Nat) d.BB,P,S,O,D⟩ t=if s=t then g (CJ d s)else CJ d t:=LM hs t
theorem bR:∀(ts:Ad) (d:Ab),Y4 ts->d.down=false->d.BJ=none->d.BB.length=7->0<=d.ops->d.ops+ts.length<=100000->
 (HU d ts).1=0/\(HU d ts).2.down=false/\(HU d ts).2.BJ=none/\(HU d ts).2.BB.length=7/\(HU d ts).2.AR=d.AR/\(HU d ts).2.ops=d.ops+ts.length/\∀t:Nat,t < 7->CJ (HU d ts).2 t=if ((t:Nat):Int)∈ts then Cn (CJ d t)else CJ d t
 | [],d,_,h1,h2,h3,_,_=>⟨rfl,h1,h2,h3,rfl,by show d.ops=d.ops+0;omega,fun t _=>by rw[zF zq];rfl⟩
 | x::ts,d,hs,h1,h2,h3,h4,h5=>by
  obtain⟨s,rfl,hs7⟩:=hs.all x (AAD ..);rw[zr]at h5;have ho:=WN h1 h2 h3 hs7;have hw:=P1 h4 (by omega);have hsl:s < d.BB.length:=by omega
  have e:HU d (((s:Nat):Int)::ts)=HU ⟨D6 Cn (s:Nat) d.BB,none,d.AR,J3 d.ops,false⟩ ts:=by
   show(bif (De d (s:Nat)).1 != 0 then De d (s:Nat)else HU (De d (s:Nat)).2 ts)=_;rw[ho];rfl
  obtain⟨k1,k2,k3,k4,k5,k6,k7⟩:=bR ts ⟨D6 Cn (s:Nat) d.BB,none,d.AR,J3 d.ops,false⟩ ⟨fun x hx=>hs.all x (z8 _ hx)⟩ rfl rfl (by show(D6 _ _ _).length=7;rw[Gl];exact h3) (by show 0<=J3 _;omega) (by show J3 _+_<=_;omega);rw[e];refine⟨k1,k2,k3,k4,k5,?_,fun t ht=>?_⟩
  ·rw[k6];show J3 d.ops+_=_;rw[zr];omega
  ·rw[k7 t ht,Tv hsl]
   by_cases hst:s=t
   ·subst hst;rw[zJ rfl,zJ (AAD ..)];split
    ·rfl
    ·rfl
   ·rw[zF hst];have hne:¬((t:Nat):Int)=((s:Nat):Int):=by omega
    simp only[zl,hne,false_or]
theorem gA {ks:Ad} {d:Ab} {P:Option BP} {S O:Int} {D:Bool} {t:Nat} (ht:t < d.BB.length):CJ ⟨Ff ks d.BB d.BB.length,P,S,O,D⟩ t=IW ks t (CJ d t):=by
 unfold CJ CV;simp only[zH];rw[zK,Qw,zJ ht,zK,zG ht];rfl
theorem bH {ks:Ad}:∀(ts:Ad) (d:Ab) (a:Nat),Y4 ts->d.down=false->d.BJ=some ⟨((a+1:Nat):Int),false,ks⟩->a < ts.length->d.BB.length=7->0<=d.ops->d.ops+ts.length<=100000->
 (HU d ts).1=13/\(HU d ts).2.BJ=none/\(HU d ts).2.BB.length=7/\(HU d ts).2.AR=d.AR/\(HU d ts).2.ops=d.ops+((a+1:Nat):Int)/\∀t:Nat,t < 7->CJ (HU d ts).2 t=IW ks t (if ((t:Nat):Int)∈ts.take a then Cn (CJ d t)else CJ d t)
 | [],_,_,_,_,_,h,_,_,_=>absurd h (Nat.not_lt_zero _)
 | x::ts,d,a,hs,h1,h2,h0,h3,h4,h5=>by
  obtain⟨s,rfl,hs7⟩:=hs.all x (AAD ..);rw[zr]at h5 h0;have hw:=P1 h4 (by omega);have hsl:s < d.BB.length:=by omega
  have hgo:De d (s:Nat)=MZ d (D6 Cn (s:Nat)) fun _=>false:=by
   unfold De;exact NK h1 (Fe h3 hs7)
  cases a with
  | zero=>
   have ho:=hgo.trans (ch h2 (by decide) _);have e:HU d (((s:Nat):Int)::ts)=(13,⟨Ff ks d.BB d.BB.length,none,d.AR,J3 d.ops,true⟩):=by
    show(bif (De d (s:Nat)).1 != 0 then De d (s:Nat)else HU (De d (s:Nat)).2 ts)=_;rw[ho];rfl
   rw[e];refine⟨rfl,rfl,?_,rfl,?_,fun t ht=>?_⟩
   ·show(Ff _ _ _).length=7;rw[FY];exact h3
   ·show J3 _=_;rw[hw];rfl
   ·rw[gA (by omega),ABL,zF zq]
  | succ a=>
   have ho:=hgo.trans (X5 h2 (by omega) _ _);have e:HU d (((s:Nat):Int)::ts)=HU ⟨D6 Cn (s:Nat) d.BB,some ⟨((a+1:Nat):Int),false,ks⟩,d.AR,J3 d.ops,false⟩ ts:=by
    show(bif (De d (s:Nat)).1 != 0 then De d (s:Nat)else HU (De d (s:Nat)).2 ts)=_;rw[ho,h1,show((a+1+1:Nat):Int) - 1=((a+1:Nat):Int)from by omega];rfl
   obtain⟨k1,k2,k3,k4,k5,k6⟩:=bH ts ⟨D6 Cn (s:Nat) d.BB,some ⟨((a+1:Nat):Int),false,ks⟩,d.AR,J3 d.ops,false⟩ a ⟨fun x hx=>hs.all x (z8 _ hx)⟩ rfl rfl (by omega) (by show(D6 _ _ _).length=7;rw[Gl];exact h3) (by show 0<=J3 _;omega) (by show J3 _+_<=_;omega);rw[e];refine⟨k1,k2,k3,k4,?_,fun t ht=>?_⟩
   ·rw[k5];show J3 d.ops+_=_;omega
   ·rw[k6 t ht,Tv hsl]
    congr 1
    rw[ABV]
    by_cases hst:s=t
    ·subst hst;rw[zJ rfl,zJ (AAD ..)];split<;>rfl
    ·rw[zF hst];have hne:¬((t:Nat):Int)=((s:Nat):Int):=by omega
     simp only[zl,hne,false_or]
structure SD (d:Ab):Prop where
 dn:d.down=false
 sl:d.AR=5
 len:d.BB.length=7
 o0:0<=d.ops
 o1:d.ops<=10000
 im:∀t:Nat,t < 7->0<=(CJ d t).Ej/\(CJ d t).Ej<=(CJ d t).b.length/\(CJ d t).b.length<=600
section
variable {d:Ab}
theorem Yk (h:SD d) {t:Nat} (ht:t < 7):FU d (t:Nat)=(CJ d t).b.length - (CJ d t).Ej:=by
 obtain⟨h0,h1,h2⟩:=h.im t ht;exact wrap64 (by show _<=((CJ d t).b.length:Int) - (CJ d t).Ej;omega) (by show((CJ d t).b.length:Int) - (CJ d t).Ej<=_;omega)
theorem Zk (h:SD d):d.AR.toNat+2=7:=by rw[h.sl];rfl
theorem Zn (h:SD d):CC d 7=Bo d:=by
 unfold CC Bo;rw[Zk h];refine List.filter_congr fun x hx=>?_
 obtain⟨t,rfl,ht⟩:=NJ hx;obtain⟨h0,h1,h2⟩:=h.im t ht;unfold Dm;rw[Yk h ht]
 by_cases e:((CJ d t).b.length:Int) - (CJ d t).Ej=0
 ·rw[e];rfl
 ·rw[zE (by omega),AAJ.2 e];rfl
theorem Xk (h:SD d):Y4 (Bo d):=⟨fun x hx=>by
 unfold Bo at hx;rw[Zk h]at hx;exact NJ (List.mem_filter.1 hx).1⟩
theorem gV (h:SD d):(Bo d).length<=7:=by rw[<-Zn h];exact MQ d 7
theorem jr (h:SD d) {t:Nat} (ht:t < 7) (hn:¬((t:Nat):Int)∈Bo d):(CJ d t).Ej=(CJ d t).b.length:=by
 obtain⟨h0,h1,h2⟩:=h.im t ht;unfold Bo at hn;rw[Zk h,List.mem_filter]at hn;have hn:¬Dm d (t:Nat)=true:=fun e=>hn ⟨iA.2 ht,e⟩
 unfold Dm at hn;rw[Yk h ht]at hn;simp only[AAT,Bool.not_eq_false,ABZ]at hn;omega
theorem kb (h1:d.down=false) (h2:d.AR=5) (h3:d.BB.length=7):Rj d:=by
 refine⟨h1,by rw[h2];decide,by rw[h2];decide,fun i hi=>?_⟩;rw[h2]at hi;obtain⟨t,rfl,ht⟩:=NJ hi;exact Fe h3 ht
theorem fh (h:SD d) (ha:∀t:Nat,t < 7->(CJ d t).Ej=(CJ d t).b.length):WZ d:=by
 have ht0:Bo d=[]:=by
  refine List.filter_eq_nil_iff.2 fun x hx=>?_
  rw[Zk h]at hx;obtain⟨t,rfl,ht⟩:=NJ hx;unfold Dm;rw[Yk h ht,ha t ht,Int.sub_self];decide
 refine⟨fun i hi=>?_,kb h.dn h.sl h.len,by rw[ht0];rfl,by rw[ht0];rfl⟩;have hb:=Fe h.len hi;unfold Lb Lp;rw[h.dn,hb];refine⟨?_,rfl⟩;show lU (CJ d i)=0;unfold lU;rw[ha i hi,Int.sub_self];decide
end
theorem Pb {ks:Ad} {t:Nat} {m:AS} (h0:0<=m.Ej) (h1:m.Ej<=m.b.length) (hk:0<=Im ks t):(IW ks t m).Ej=(IW ks t m).b.length/\(∃n,n<=m.b.length/\(IW ks t m).b=m.b.take n)/\(IW ks t m).b.length<=m.b.length/\(m.Ej=m.b.length->(IW ks t m).b=m.b):=by
 unfold IW;cases hc:decide (0 < m.b.length)
 ·have:=ABv hc;rw[zC];exact⟨by omega,⟨m.b.length,zA _,(AAN).symm⟩,zA _,fun _=>rfl⟩
 ·rw[y8];have hkn:0<=Dd m (Im ks t)/\Dd m (Im ks t)<=m.b.length:=by unfold Dd;split<;>omega
  refine⟨?_,⟨(Dd m (Im ks t)).toNat,by omega,rfl⟩,?_,fun e=>?_⟩
  ·show Dd m _=((m.b.take _).length:Int);rw[zO];omega
  ·show(m.b.take _).length<=_;rw[zO];omega
  ·show m.b.take _=m.b;refine zI ?_;unfold Dd;split<;>omega
theorem iC {x:Int} (h0:0<=x) (t:Nat):0<=Im [x] t:=by
 unfold Im;show 0<=if 8192 < [x].getD (t % 1) 0 then 8192 else [x].getD (t % 1) 0
 rw[ACJ];show 0<=if 8192 < x then 8192 else x
 split<;>omega
theorem ew {k:Int} (h0:0<=k):0<=IntKind.wrap .i64 (Int.tmod k 700)/\IntKind.wrap .i64 (Int.tmod k 700) < 700:=by
 obtain⟨r0,r1⟩:=MJ (m:=700) h0 (by decide);rw[wrap64 (by omega) (by omega)];exact⟨r0,r1⟩
theorem vP {X:Ab} (h1:X.AR=5) (h2:X.BB.length=7) (h3:0<=X.ops) (h4:X.ops<=10000) (h5:∀t:Nat,t < 7->0<=(CJ X t).Ej/\(CJ X t).Ej<=(CJ X t).b.length/\(CJ X t).b.length<=600):SD (PM X):=⟨rfl,h1,h2,h3,h4,h5⟩
theorem Yy (X:Ab) (t:Nat):CJ (PM X) t=CJ X t:=rfl
theorem rq {X:Ab} (h:X.BB.length=7):(PM X).BB.length=7:=h
theorem vq (X:Ab):(PM X).down=false:=rfl
theorem lu (X:Ab) (t:Nat):CV X ((t:Nat):Int)=CJ X t:=rfl
theorem sJ {d:Ab} {x k:Int} (h0:0 < x) (h1:x<=1000000) (k0:0<=k):Kd d x false [IntKind.wrap .i64 (Int.tmod k 700)]=(0,⟨d.BB,some ⟨x,false,[IntKind.wrap .i64 (Int.tmod k 700)]⟩,d.AR,d.ops,d.down⟩):=by
 obtain⟨x0,x1⟩:=ew k0;generalize IntKind.wrap .i64 (Int.tmod k 700)=y at x0 x1 ⊢;have e:[y].all I0=true:=by
  show(I0 y&&true)=true;unfold I0;rw[zE (by omega),zE (by omega)];rfl
 have hp:FF x [y]=true:=by
  unfold FF;rw[e,zE (by omega),zE (by omega)];rfl
 unfold Kd;rw[hp,zE h0];rfl
variable (hW:CY Tryz.prog AI Dj uw)
include hW in
theorem nK {l:List B2} {a k:Int} (hput:∀i,Ld (PJ l i)) (a0:0<=a) (a1:a < 256) (k0:0<=k):AX Ut 21 AO (fun v _=>v= .bool true) (st AO [Ao 20 l.length,.int .u8 a,.int .u16 k] (hp [.vec JQ l true])):=by
 have hkl:=(Xn l.length).2;obtain⟨hall,rs,us,hF⟩:=ji hput (Mc l.length) 0 Oo _ _ (by omega) yG;have hst:Eo l (Mc l.length) 0 Oo=wO l l.length:=rfl;rw[hst,zN]at hF;generalize hs0:wO l l.length=s0 at hF;have hap:=Te (s:=6) (l:=[1,2,3]) hF.dn hF.pl hF.len (by decide) (by
  have e:Gw s0.d ((6:Nat):Int)=(CV s0.d ((6:Nat):Int)).size - (CV s0.d ((6:Nat):Int)).b.length:=rfl;rw[e,hF.wA 6 (by decide) (by decide)];decide)
 have hap:DX s0.d 6 [1,2,3]=(0,⟨D6 (fun m=>FP m [1,2,3]) ((6:Nat):Int) s0.d.BB,none,s0.d.AR,J3 s0.d.ops,false⟩):=hap;have hw:=P1 hF.o0 (by have:=hF.o1;omega);generalize hd1:(DX s0.d 6 [1,2,3]).2=d1;have hd1':d1=⟨D6 (fun m=>FP m [1,2,3]) ((6:Nat):Int) s0.d.BB,none,s0.d.AR,J3 s0.d.ops,false⟩:=by rw[<-hd1,hap]
 have him:∀t:Nat,CJ d1 t=if 6=t then FP (CJ s0.d 6) [1,2,3]else CJ s0.d t:=fun t=>by rw[hd1'];exact Tv (by rw[hF.len];decide) t
 have him6:CJ s0.d 6=⟨64,0,[]⟩:=hF.wA 6 (by decide) (by decide);have him5:∀s:Nat,s < 5->CJ d1 s=⟨600,((B3 ((rs s).take (us s))).length:Nat),B3 (rs s)⟩:=fun s hs=>by
  rw[him,zF (by omega)];exact hF.im s hs
 have hdur:∀s:Nat,s < 5->(B3 ((rs s).take (us s))).length<=(B3 (rs s)).length:=fun s _=>by
  have e:B3 (rs s)=B3 ((rs s).take (us s))++B3 ((rs s).drop (us s)):=by
   unfold B3;rw[<-ABr,ABe]
  rw[e,zM];omega
 have hlen1:d1.BB.length=7:=by rw[hd1'];exact(Gl (fun m=>FP m [1,2,3]) ((6:Nat):Int) s0.d.BB).trans hF.len
 have hS:SD d1:=by
  refine⟨by rw[hd1'],by rw[hd1'];exact hF.sl,hlen1,by rw[hd1'];show 0<=J3 _;have:=hF.o0;omega,by rw[hd1'];show J3 _<=_;have:=hF.o1;omega,fun t ht=>?_⟩
  by_cases h5:t < 5
  ·rw[him5 t h5];have:=hdur t h5;have:=hF.sz t h5;exact⟨zk _,by show((B3 _).length:Int)<=((B3 _).length:Int);omega,this⟩
  ·by_cases h6:t=6
   ·subst h6;rw[him,zJ rfl,him6];decide
   ·have:t=5:=by omega
    subst this;rw[him,zF (by decide),show CJ s0.d 5=⟨64,0,[]⟩from hF.wA 5 (by decide) (by decide)];decide
 have hops:d1.ops<=200:=by rw[hd1'];show J3 _<=_;have:=hF.o1;omega
 have hpl1:d1.BJ=none:=by rw[hd1']
 have hP:∀d:Ab,d.AR=5->d.down=false->d.BB.length=7->(∀s:Nat,s < 5->∃n,n<=(B3 (rs s)).length/\(CJ d s).b=(B3 (rs s)).take n)->je d rs:=fun d h1 h2 h3 h4=>
  ⟨h1,h2,h3,h4,hF.sz,hF.ok,hF.nd,hF.DG,fun s hs=>by have:=hF.qk s hs;omega⟩
 have hP1:=hP d1 hS.sl hS.dn hlen1 fun s hs=>⟨_,zA _,by rw[him5 s hs,AAN]⟩
 have hpre:ij d1:=⟨hS.dn,fun i hi=>Fe hlen1 hi,(aG hP1).1,nz hP1⟩;have htl:=gV hS;have hts:=Xk hS;have hte:=Zn hS;have hat:∃j:Nat,XY a (CC d1 7).length=(j:Int)/\j < (CC d1 7).length+1:=by
  rw[hte];unfold XY;rw[wrap64 (by omega) (by omega),wrap64 (by show _<=((Bo d1).length:Int)+1;omega) (by show((Bo d1).length:Int)+1<=_;omega)];obtain⟨r0,r1⟩:=MJ (b:=a) (m:=Int.ofNat (Bo d1).length+1) a0 (by show 0 < ((Bo d1).length:Int)+1;omega);refine⟨(Int.tmod a (Int.ofNat (Bo d1).length+1)).toNat,by omega,?_⟩;have r1:Int.tmod a (Int.ofNat (Bo d1).length+1) < ((Bo d1).length:Int)+1:=r1;omega
 obtain⟨j,hj,hj2⟩:=hat
 refine KN hW (b:=true) (n:=0) (S:=LW) (S2:=LW) (h1:=HR LW 0) (h2:=Jo) (Q:=fun _ _=>False) (R:=fun c=>c=r8 l d1 s0.L s0.u a k) (R2:=fun _=>False) (by decide) (by decide) (fun v l hq=>hq.elim) (fun c hc=>?_) (fun c h=>h.elim) ?_
 ·rw[hc];refine jW hW hpre ?_;rw[hj,hte];cases j with
  | zero=>
   obtain⟨q1,q2,q3,q4,q5,q6,q7⟩:=bR (Bo d1) d1 hts hS.dn hpl1 hlen1 hS.o0 (by have:=hS.o1;omega);refine wE hW (kb hS.dn hS.sl hlen1) q1 ?_ (fh ⟨q2,by rw[q5];exact hS.sl,q4,by rw[q6];have:=hS.o0;omega,by rw[q6];omega,fun t ht=>?_⟩ fun t ht=>?_)
   ·rw[q6];have:=hS.o0;have:=hS.o1;exact(wrap64 (by show _<=d1.ops+((Bo d1).length:Int);omega) (by show d1.ops+((Bo d1).length:Int)<=_;omega)).symm
   ·obtain⟨i0,i1,i2⟩:=hS.im t ht;rw[q7 t ht];split
    ·exact⟨zk _,AAv _,i2⟩
    ·exact⟨i0,i1,i2⟩
   ·rw[q7 t ht];split
    ·rfl
    ·rename_i hn;exact jr hS ht hn
  | succ j=>
   rw[hte]at hj2;obtain⟨x0,x1⟩:=ew k0;generalize hx:((j+1:Nat):Int)=x;have hArm:=sJ (d:=d1) (x:=x) (k:=k) (by omega) (by omega) k0;have hA:DL d1 k x=⟨d1.BB,some ⟨x,false,[IntKind.wrap .i64 (Int.tmod k 700)]⟩,d1.AR,d1.ops,d1.down⟩:=by rw[WO,hArm]
   have htA:Bo (DL d1 k x)=Bo d1:=by rw[hA];rfl
   have hyp:=bH (ks:=[IntKind.wrap .i64 (Int.tmod k 700)]) (Bo d1) (DL d1 k x) j hts (by rw[hA];exact hS.dn) (by rw[hA,hx]) (by omega) (by rw[hA];exact hlen1) (by rw[hA];exact hS.o0) (by rw[hA];show d1.ops+_<=_;have:=hS.o1;omega);rw[<-htA]at hyp;have hAi:∀t,CJ (DL d1 k x) t=CJ d1 t:=fun t=>by rw[hA];rfl
   have hAs:(DL d1 k x).AR=5:=by rw[hA];exact hS.sl
   have hAo:(DL d1 k x).ops=d1.ops:=by rw[hA]
   have hAy:Rj (DL d1 k x):=kb (by rw[hA];exact hS.dn) hAs (by rw[hA];exact hlen1);obtain⟨q1,q2,q3,q4,q5,q6⟩:=hyp;have hck:=fun t=>iC x0 t
   have hmid:∀t:Nat,t < 7->∃m:AS,CJ (HU (DL d1 k x) (Bo (DL d1 k x))).2 t=IW [IntKind.wrap .i64 (Int.tmod k 700)] t m/\0<=m.Ej/\m.Ej<=m.b.length/\m.b=(CJ d1 t).b/\(((t:Nat):Int)∈(Bo d1).take j->m.Ej=m.b.length):=fun t ht=>by
    obtain⟨i0,i1,i2⟩:=hS.im t ht;refine⟨_,q6 t ht,?_⟩;rw[hAi,htA];split
    ·exact⟨zk _,AAv _,rfl,fun _=>rfl⟩
    ·rename_i hn;exact⟨i0,i1,rfl,fun h=>absurd h hn⟩
   have hSD:SD (PM (HU (DL d1 k x) (Bo (DL d1 k x))).2):=by
    have o0:=hS.o0;refine vP (q4.trans hAs) q3 (by rw[q5,hAo];omega) (by rw[q5,hAo];omega) fun t ht=>?_
    obtain⟨m,e,m0,m1,mb,_⟩:=hmid t ht;obtain⟨c1,c2,c3,c4⟩:=Pb (ks:=[IntKind.wrap .i64 (Int.tmod k 700)]) (t:=t) m0 m1 (hck t);have hi2:=(hS.im t ht).2.2;rw[e,c1];exact⟨zk _,AAv _,by rw[mb]at c3;omega⟩
   refine vo hW hx.symm (by omega) (by omega) (by rw[hArm]) hAy q1 ?_ (fh hSD fun t ht=>?_) fun i hi=>?_
   ·rw[q5,hAo,hx];have:=hS.o0;have:=hS.o1;exact(wrap64 (by omega) (by omega)).symm
   ·obtain⟨m,e,m0,m1,mb,_⟩:=hmid t ht;have c1:=(Pb (ks:=[IntKind.wrap .i64 (Int.tmod k 700)]) (t:=t) m0 m1 (hck t)).1;rw[Yy,e,c1]
   ·have hil:i < (Bo d1).length:=by omega
    have hmem:GP (Bo d1) i∈Bo d1:=by
     rw[IP hil];exact AA8 hil
    obtain⟨s,hse,hs7⟩:=hts.all _ hmem;have hPd:=hP (PM (HU (DL d1 k x) (Bo (DL d1 k x))).2) hSD.sl (vq _) (rq q3) fun s hs=>by
     obtain⟨m,e,m0,m1,mb,_⟩:=hmid s (by omega);obtain⟨n,hn,hb⟩:=(Pb (ks:=[IntKind.wrap .i64 (Int.tmod k 700)]) (t:=s) m0 m1 (hck s)).2.1;rw[mb,him5 s hs]at hn hb;exact⟨n,hn,by rw[Yy,e,hb]⟩
    obtain⟨g1,g2,g3⟩:=aG hPd;rw[hse];refine⟨g1,by omega,by omega,fun h5=>?_⟩;have hs5:s < 5:=by omega
    have hfull:HM (PM (HU (DL d1 k x) (Bo (DL d1 k x))).2) rs s=rs s:=by
     obtain⟨m,e,m0,m1,mb,mt⟩:=hmid s hs7;have hin:((s:Nat):Int)∈(Bo d1).take j:=by
      rw[<-hse,IP hil];exact List.mem_take_iff_getElem.2 ⟨i,by omega,rfl⟩
     have hb:=(Pb (ks:=[IntKind.wrap .i64 (Int.tmod k 700)]) (t:=s) m0 m1 (hck s)).2.2.2 (mt hin);have:(CV (PM (HU (DL d1 k x) (Bo (DL d1 k x))).2) ((s:Nat):Int)).b=B3 (rs s):=by
      rw[lu,Yy,e,hb,mb,him5 s hs5]
     unfold HM;rw[this];exact aU (rs s) 0 (by omega)
    have hc:=hF.qk s hs5;have hL:=hF.L s hs5;have hix:=g3 s hs5;rw[hfull]at hix;have hel:Ux (EG (PM (HU (DL d1 k x) (Bo (DL d1 k x))).2)) ((s:Nat):Int)=s0.L s:=by
     unfold Ux;rw[zH,hix,hL,zI (by rw[H6];omega)]
    rw[hel,zH];have hll:(s0.L s).length<=1000:=by rw[hL,H6];omega
    exact⟨⟨by omega,by omega,by rw[hix,H6];omega⟩,⟨zA _,zA _,rfl,by omega⟩⟩
 ·show HI (Lm Hq (Ly 0)) _ _ _ _ _ _ _ _;rw[qx];refine⟨⟨rfl,hall⟩,by decide,congrArg int ?_,?_⟩
  ·show(DX (Eo l (Mc l.length) 0 Oo).d 6 [1,2,3]).1=0;rw[hst,hs0,hap]
  ·rw[hs0,hd1]
end Go.AD
