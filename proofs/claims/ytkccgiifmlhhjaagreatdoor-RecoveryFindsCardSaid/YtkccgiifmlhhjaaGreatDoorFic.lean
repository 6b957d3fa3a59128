/-
  Part of the proof: the machine that runs a program by fixed orders, and that each of its runs is a run of the model; or a run of it in parts. No conditions.
-/
import Derived.Test.YtkccgiifmlhhjaaGreatDoorLk
import Derived.Test.YtkccgiifmlhhjaaGreatDoorSfb
import Derived.Test.YtkccgiifmlhhjaaGreatDoorLxb
import Derived.Test.YtkccgiifmlhhjaaGreatDoorIdTell3
import Derived.Test.YtkccgiifmlhhjaaGreatDoorInc
import Derived.Test.YtkccgiifmlhhjaaGreatDoorAbr
noncomputable section
set_option maxRecDepth 1000000
namespace Go.AD
open Go.Proofs
theorem JW.trans {H:AA} {rs ss:AW} (h:∀b∈ss,JW H rs b) {c:Nat} (hc:JW H ss c):JW H rs c:=by
 induction hc with
 | here hb=>exact h _ hb
 | next _ ho hr ih=>exact .next ih ho hr
theorem SV (b:Nat):∀n j,Cp b j n=(List.range' j n).map fun j=>Value.pointer (some ⟨b,Aa,some j⟩)
 | 0,j=>rfl
 | n+1,j=>by
  show _::Cp b (j+1) n=_;rw[SV b n (j+1),List.range'_succ];rfl
theorem Yf (b n:Nat):Cp b 0 n=Ds b n:=by
 rw[SV];unfold Ds;rw[List.range_eq_range',Dh]
theorem Told.wG {D:Nat->Prop} {Φ:Ih} {v:Value} {H:AA} {s:Pk} {b0 d:Nat} (bs:AW) {objs:BN} (hr:Bx s objs) (hx:C3 s=[]) (hb0:bs[0]? = some b0) (hA:d∈Au 4 v∨D d) (hd:JW H [d] b0) (hnd:bs.Nodup) (hreach:∀b∈bs,JW H [b0] b) (hobj:Ft bs H bs objs) (hroot:∀o T,objs[0]? = some o->¬o.void T)
 (next:∀H2:AA,(∀x,x∉bs->H2.get x=H.get x)->H2.get b0=some (.abs (.pack s) false)->Told D Φ v H2):Told D Φ v H:=by
 have hS:=E2 (s:=s) (H:=H) hnd;refine .shut s objs bs [d] hr ?_ hobj.len hnd (fun b hb=>by rw[I6]at hb;rw[hb];exact hA) (fun b hb=>JW.trans (fun x hx=>by rw[I6]at hx;rw[hx];exact hd) (hreach b hb)) (by rw[hx];exact hobj.at) hroot (next _ (fun x hx=>hS.GK x hx) (hS.root b0 hb0));rintro rfl;have:=hobj.len;rw[wC]at this;rw[List.length_eq_zero_iff.1 this]at hb0;cases hb0
theorem cJ {b0 r a:Nat} {L:List AS} {H:AA} (hn:0 < L.length) (hn2:L.length<=34) (h:ml b0 r a L H):∃objs,Bx (.Bw L) objs/\[b0,r,a][0]? = some b0/\[b0,r,a].Nodup/\(∀b∈[b0,r,a],JW H [b0] b)/\Ft [b0,r,a] H [b0,r,a] objs/\(∀o T,objs[0]? = some o->¬o.void T):=Qz hn hn2 h
theorem eS {d a b:Nat} {s:Ab} {H:AA} (hd:FQ s) (hn:[d,a,b].Nodup) (h:[H.get d,H.get a,H.get b]=eh a b s):∃objs,Bx (.dev s) objs/\[d,a,b][0]? = some d/\[d,a,b].Nodup/\(∀x∈[d,a,b],JW H [d] x)/\Ft [d,a,b] H [d,a,b] objs/\(∀o T,objs[0]? = some o->¬o.void T):=by
 simp only[eh,JB,dM]at h;obtain⟨g0,g1,g2⟩:=h;refine⟨_,.dev s hd,rfl,hn,fun x hx=>?_,⟨⟨_,g0,rfl,rfl,?_⟩,⟨_,g1,rfl,rfl,by rfl⟩,⟨_,g2,rfl,rfl,by rfl⟩,trivial⟩,fun o T ho=>by cases ho;exact id⟩
 ·simp only[WL,Yk,lG]at hx;rcases hx with rfl | rfl | rfl
  ·exact .here (by simp)
  ·exact .next (.here (by simp)) g0 (by simp[IK,Au,At,ND])
  ·exact .next (.here (by simp)) g0 (by simp[IK,Au,At,ND])
 ·refine Qx ?_ ?_ _ _ _
  ·rfl
  ·rfl
theorem o5 {D:Nat->Prop} {Φ:Ih} {v:Value} {H:AA} {d c R t n:Nat} {L:List AS} {zs:AW} (hn:2<=n) (hn2:n<=32) (hL:L.length=n+2) (hz:zs.length=L.length) (hnd:(d::c::R::t::zs).Nodup) (gd:H.get d=some (ND c t n 0 false)) (gc:H.get c=some (.cells [.slice (some ⟨R,0,none⟩) (n+2) (Aa+(n+2))] 0 false))
 (gR:H.get R=some (.cells (zs.map At) 1 false)) (gt:H.get t=some (Lv (.timer none))) (gz:∀p∈zs.zip (L.map Pk.CJ),H.get p.1=some (.abs (.pack p.2) false)) (hA:d∈Au 4 v∨D d) (next:∀H2:AA,H2.get d=some (Lv (.dev ⟨L,none,n,0,false⟩))->Told D Φ v H2):Told D Φ v H:=by
 generalize hzz:zs.zip (L.map Pk.CJ)=zz at gz;have hzl:zz.map Prod.fst=zs:=by rw[<-hzz];exact List.map_fst_zip (by rw[cw,hz];exact CC _)
 have hzs:zz.map (fun p=>some p.2)=L.map fun m=>some (.CJ m):=by
  have:zz.map Prod.snd=L.map Pk.CJ:=by rw[<-hzz];exact List.map_snd_zip (by rw[cw,hz];exact CC _)
  rw[show(fun p:Nat × Pk=>some p.2)=some ∘ Prod.snd from rfl,<-uk,this,uk];rfl
 have hlen:zz.length=n+2:=by rw[<-hL,<-hz,<-hzl,cw]
 have hzx:∀p∈zz,C3 p.2=[]:=fun p _=>rfl
 simp only[fg,WL,ABw]at hnd;obtain⟨⟨n1,n2,n3,n4⟩,⟨n5,n6,n7⟩,⟨n8,n9⟩,n10,n11⟩:=hnd;have zne:∀p∈zz,p.1∈zs:=fun p hp=>by rw[<-hzl];exact List.mem_map.2 ⟨p,hp,rfl⟩
 have Jl:zs.map At=zz.map fun p=>Value.pointer (some ⟨p.1,0,none⟩):=by rw[<-hzl,uk];rfl
 refine .JF R [.tok] (zs.map At) false (by rw[D9];exact gR) ?_;refine .wy R [.tok] (zs.map At) false (by rw[AA.AU,HI rfl]) (by intro e;have:=congrArg List.length e;rw[cw,hz,hL]at this;cases this) (by decide) v (.val (.same v)) c _ _ 0 false (by rw[AA.AU,E7 n5];exact gc) (.cons (.row (n+2) _ (n+2) rfl) .nil) ?_;generalize hH1:(H.put R (.vec [.tok] (zs.map At) false)).put c (.cells [.slice (some ⟨R,0,some 0⟩) (n+2) Aa] 0 false)=H1;have get1:∀x,H1.get x=if x=c then some (.cells [.slice (some ⟨R,0,some 0⟩) (n+2) Aa] 0 false)else if x=R then some (.vec [.tok] (zs.map At) false)else H.get x:=fun x=>by rw[<-hH1,AA.AU,AA.AU]
 have next1:H1.next=H.next:=by rw[<-hH1];rfl
 have hd1:H1.get d=some (ND c t n 0 false):=by rw[get1,E7 n1,E7 n2];exact gd
 have hc1:H1.get c=some (.cells [.slice (some ⟨R,0,some 0⟩) (n+2) Aa] 0 false):=by rw[get1,HI rfl]
 have hR1:H1.get R=some (.vec [.tok] (zz.map fun p=>Value.pointer (some ⟨p.1,0,none⟩)) false):=by rw[get1,E7 (Zn n5),HI rfl,Jl]
 have ht1:H1.get t=some (Lv (.timer none)):=by rw[get1,E7 (Zn n6),E7 (Zn n8)];exact gt
 have hz1:∀p∈zz,H1.get p.1=some (.abs (.pack p.2) false):=fun p hp=>by
  have:=zne p hp;rw[get1,E7 (fun e=>n7 (by rw[<-e];exact this)),E7 (fun e=>n9 (by rw[<-e];exact this))];exact gz p hp
 have rc:∀{K:AA},K.get d=some (ND c t n 0 false)->JW K [d] c:=fun g=> .next (.here (by simp)) g (by simp[IK,Au,At,ND])
 have rR:∀{K:AA},K.get d=some (ND c t n 0 false)->K.get c=some (.cells [.slice (some ⟨R,0,some 0⟩) (n+2) Aa] 0 false)->JW K [d] R:=fun g g2=> .next (rc g) g2 (by simp[IK,Au])
 refine .members R zz [d] hR1 (fun p hp=>⟨hz1 p hp,hzx p hp⟩) (by rw[hzl];exact n11) (by intro e;rw[e]at hlen;cases hlen) (fun b hb=>by rw[I6]at hb;rw[hb];exact hA) (fun p hp=> .next (rR hd1 hc1) hR1 ?_) fun hlt=>?_
 ·show p.1∈(Ag [.tok] _).flatMap (Au 4);rw[D9];exact List.mem_flatMap.2 ⟨.pointer (some ⟨p.1,0,none⟩),List.mem_map.2 ⟨p,hp,rfl⟩,by simp[Au]⟩
 have al:∀x,x < H1.next->(H1.alloc (.abs (.Bl []) false)).get x=H1.get x:=fun x hx=>by rw[AA.AM,E7 (lS hx)]
 obtain⟨k1,k2,k3,k4⟩:=QN (r:=R) zz H1.next [] (H1.alloc (.abs (.Bl []) false)) (fun x o hx=>by
  rw[AA.AM]at hx;show x < H1.next+1
  by_cases e:x=H1.next
  ·omega
  ·rw[E7 e]at hx;have:=hlt _ _ hx;omega) (by rw[AA.AM,HI rfl]) (by rw[al R (hlt _ _ hR1)];exact hR1) (fun p hp=>by rw[al _ (hlt _ _ (hz1 p hp))];exact hz1 p hp) (by rw[hzl];exact n11)
 generalize hA2:Ep R zz H1.next [] (H1.alloc (.abs (.Bl []) false))=A at k1 k2 k3 k4 ⊢;obtain⟨a,H2⟩:=A;simp only at k1 k2 k3 k4 ⊢;have hage:H1.next<=a:=by
  rcases k4 with k4 | k4
  ·omega
  ·exact jP (ACL _) k4
 have DG:∀x o,H1.get x=some o->x≠R->x∉zs->H2.get x=some o:=fun x o hx h1 h2=>by
  have hl:=hlt _ _ hx;rw[k3 x h1 (by omega) (by rw[hzl];exact h2) (show x < H1.next+1 by omega),al x hl];exact hx
 have hd2:=DG d _ hd1 n2 n4;have hc2:=DG c _ hc1 n5 n7;have ht2:=DG t _ ht1 (Zn n8) n10;have hdl:=hlt _ _ hd1;have hcl:=hlt _ _ hc1;have hRl:=hlt _ _ hR1;have htl:=hlt _ _ ht1;have hat:ml c R a L H2:=by
  refine⟨by simp only[fg,WL,Yk,lG,ABw,Zk,dM,not_false_eq_true];exact⟨⟨n5,by omega⟩,by omega⟩,?_,?_,?_⟩
  ·rw[hc2];unfold Uw Ao;rw[hL,Dh]
  ·rw[k1,Yf,hL];simp only[wC,Hq,hlen]
  ·rw[k2,hzs];rfl
 obtain⟨objs,q1,q2,q3,q4,q5,q6⟩:=cJ (by omega) (by omega) hat
 refine Told.wG [c,R,a] q1 rfl q2 hA (rc hd2) q3 q4 q5 q6 fun H3 h3 h4=>?_
 have hd3:H3.get d=some (ND c t n 0 false):=by rw[h3 d (by simp only[WL,Yk,lG,ABw];exact⟨n1,n2,by omega⟩)];exact hd2
 have ht3:H3.get t=some (Lv (.timer none)):=by rw[h3 t (by simp only[WL,Yk,lG,ABw];exact⟨Zn n6,Zn n8,by omega⟩)];exact ht2
 obtain⟨objs,q1,q2,q3,q4,q5,q6⟩:=eS (d:=d) (a:=c) (b:=t) (s:=⟨L,none,n,0,false⟩) (H:=H3) ⟨by show(2:Int)<=n;omega,by show(n:Int)<=32;omega,by show(L.length:Int)=n+2;omega,fun p hp=>by cases hp⟩ (by simp only[fg,WL,Yk,lG,ABw,Zk,dM,not_false_eq_true];exact⟨⟨n1,n3⟩,n6⟩) (by rw[hd3,h4,ht3];rfl);exact Told.pO [d,c,t] q1 rfl q2 hA q3 q4 q5 q6 fun H4 _ h5=>next H4 h5
def ZV (args:AL) (objs:BN):GT:=match args,objs with
 | [.int .i64 n,.int .i64 s],[]=> .ask (2<=n/\n<=32/\1<=s/\s<=8192) (.ret ⟨.tuple ⟨[At 20,int 0]⟩,[],[.abs (.pack (.dev ⟨(nf n.toNat s).map fun a=>⟨a,0,[]⟩,none,n,0,false⟩)) false]⟩)
 | _,_=> .fail
theorem Wy {K:Prop} (hK:K):∀l:Ad,(∀a∈l,1<=a/\a<=8192)->jx K l
 | [],_=>hK
 | a::l,h=>⟨h a (bB ..),Wy hK l fun b hb=>h b (ZH _ hb)⟩
theorem gg {K:Prop} (hK:K):∀l:AW,xx K l
 | []=>hK
 | _::l=>⟨rfl,gg hK l⟩
theorem UR (n:Nat) (s:Int):(nf n s).length=n+2:=by unfold nf;simp
theorem a8 (n:Nat):(dq n).length=n+2:=by unfold dq;simp
theorem gP (n:Nat):((Ny n+2)::24::Ny n::(Ny n+1)::dq n).Nodup:=by
 have hm:∀x∈dq n,25<=x/\x < Ny n:=fun x hx=>by
  unfold dq at hx;obtain⟨i,hi,rfl⟩:=List.mem_map.1 hx;have:=List.mem_range.1 hi;unfold Ny;omega
 have hn:(dq n).Nodup:=by
  unfold dq;rw[List.nodup_iff_pairwise_ne,List.pairwise_map];exact(List.nodup_iff_pairwise_ne.1 List.nodup_range).imp fun h e=>h (by omega)
 have h24:24 < Ny n:=by unfold Ny;omega
 simp only[fg,WL,ABw];exact⟨⟨by omega,by omega,by omega,fun h=>by have:=hm _ h;omega⟩,⟨by omega,by omega,fun h=>by have:=hm _ h;omega⟩,⟨by omega,fun h=>by have:=hm _ h;omega⟩,fun h=>by have:=hm _ h;omega,hn⟩
theorem aT {H:AA}:∀(zs:AW) (l:Ad) (x:Option AP),zs.length=l.length->zs.map H.get++[x]=l.map (fun a=>some (.abs (.pack (.CJ ⟨a,0,[]⟩)) false))++[x]->∀p∈zs.zip ((l.map fun a=>(⟨a,0,[]⟩:AS)).map Pk.CJ),H.get p.1=some (.abs (.pack p.2) false)
 | [],[],_,_,_,p,hp=>by cases hp
 | z::zs,a::l,x,hl,h,p,hp=>by
  simp only[X5,kE,JB]at h;simp only[X5,List.zip_cons_cons,WL]at hp;rcases hp with rfl | hp
  ·exact h.1
  ·exact aT zs l x (by simpa using hl) h.2 p hp
 | [],_::_,_,hl,_,_,_=>by cases hl
 | _::_,[],_,hl,_,_,_=>by cases hl
theorem bw:CY Tryz.prog AI EL (Ai AI 20 [] ZV):=by
 refine BF yc.all (by kernel_rfl) (n:=BD EL) (by kernel_rfl) (by kernel_rfl) fun argsc objs x hx hro=>?_
 clear hro;unfold ZV at hx;split at hx
 ·rename_i n s;refine⟨VC (by kernel_rfl),Ak.OE ?_⟩;simp only[GT.run]at hx;split at hx
  ·rename_i h;cases hx
   obtain⟨h2,h32,hs,hs2⟩:=h;obtain⟨m,rfl⟩:∃m:Nat,n=m:=⟨n.toNat,by omega⟩
   have hm2:2<=m:=by omega
   have hm32:m<=32:=by omega
   have hv:CU XW (Ax cW) [] EL (24::Ny m::(Ny m+1)::dq m) 20 (fun v os=>v= .tuple ⟨[At (Ny m+2),int 0]⟩/\os=xY m s) 8000 (st EL [int m,int s] (hp [])):=by
    rw[fV m hm2 hm32];exact gg (Wy ⟨rfl,rfl⟩ _ fun a ha=>by
     unfold nf at ha;rcases List.mem_append.1 ha with ha | ha
     ·rw[List.mem_replicate]at ha;omega
     ·simp only[WL,Yk,lG]at ha;omega) _
   refine Ak.mono (AX.Fh (BK yc.pf (by kernel_rfl) hv)) fun v H ⟨e,hq⟩=>?_
   subst e;have hq:H.get 24::H.get (Ny m)::H.get (Ny m+1)::((dq m++[Ny m+2]).map H.get)=xY m s:=hq;unfold xY at hq;rw[ABq]at hq;simp only[JB]at hq;obtain⟨g1,g2,g3,g4⟩:=hq;have gl:H.get (Ny m+2)=some (ND 24 (Ny m+1) m 0 false):=by
    have:=congrArg List.getLast? g4;simpa using this
   have g5:(dq m).map H.get++[some (ND 24 (Ny m+1) m 0 false)]=(nf m s).map (fun a=>some (.abs (.pack (.CJ ⟨a,0,[]⟩)) false))++[some (ND 24 (Ny m+1) m 0 false)]:=by
    rw[<-g4,<-gl];rfl
   refine o5 (d:=Ny m+2) (c:=24) (R:=Ny m) (t:=Ny m+1) (n:=m) (L:=(nf m s).map fun a=>⟨a,0,[]⟩) (zs:=dq m) hm2 hm32 (by rw[cw,UR]) (by rw[cw,UR,a8]) (gP m) gl g1 g2 g3 (aT _ _ _ (by rw[UR,a8]) g5) (.inl (by simp[Au,At])) fun H2 g=> .here ?_
   refine⟨[Ny m+2],by simp,fun b hb=>by rw[I6]at hb;rw[hb];show 20+0<=_;unfold Ny;omega,rfl,rfl,fun j b o hb ho=>?_,fun j o hj=>(by cases hj)⟩;cases j with
   | zero=>cases hb;cases ho;exact⟨_,rfl,g⟩
   | succ j=>cases hb
  ·cases hx
 ·cases hx
def jR (args:AL) (objs:BN):GT:=match args,objs with
 | [.agg ⟨[.int .i64 k,.int .i64 q,.string a,.string b]⟩,.int .i64 s,.int .i64 o],[]=> .ask (L6 k q a b s o=true) (.ret ⟨.tuple ⟨[G6 q a (k==2) s o (Bu a b),int 0]⟩,[],[]⟩)
 | _,_=> .fail
def jo (args:AL) (objs:BN):GT:=match args,objs with
 | [.agg ⟨[.int .i64 k,.int .i64 q,.string a,.string b]⟩],[]=> .ask (DR k q a b=true) (.ret ⟨.tuple ⟨[Ao 20 (Bu a b),int 0]⟩,[],[.vec kB (E3 k q a b) false]⟩)
 | _,_=> .fail
theorem cj:∀a o x,(jR a o).run=some x->(TX a o).run=some x:=by
 intro a o x hx;unfold jR at hx;unfold TX;split at hx
 ·simp only[GT.run]at hx ⊢;split at hx
  ·rename_i h;rw[h];exact hx
  ·cases hx
 ·cases hx
theorem dV:∀a o x,(jo a o).run=some x->(VV a o).run=some x:=by
 intro a o x hx;unfold jo at hx;unfold VV;split at hx
 ·simp only[GT.run]at hx ⊢;split at hx
  ·rename_i h;rw[h];exact hx
  ·cases hx
 ·cases hx
def iT:Gk:=fun p rest os=>match p,rest,os with
 | .dev d,[.int .i64 i],[]=> .ask ((De d i).1=0) (.ret ⟨int 0,.dev (De d i).2,[]⟩)
 | _,_,_=> .fail
theorem dU:∀a o x,(CX 20 iT a o).run=some x->(CX 20 (TB Cn fun _=>false) a o).run=some x:=IU fun s rest os x hx=>by
 unfold iT at hx;unfold TB;split at hx
 ·rename_i d i;simp only[PT.gt,GT.run]at hx ⊢;split at hx
  ·rename_i h;show some _=some _;unfold De at hx h;rw[h];exact hx
  ·cases hx
 ·simp only[PT.gt,GT.run]at hx;cases hx
def Ur:List GA:=[GQ EL [] ZV,(Cy,Ai AI 20 [] TX,Cs AI 20 [] jR),(CS,Ai AI 20 [] VV,Cs AI 20 [] jo),
 (DQ,Ai AI 20 [true] (CX 20 (HK fun m=>m.b.length)),Cs AI 20 [true] (CX 20 oa)),GQ By [true] (CX 20 Pv),
 (CI,Ai AI 20 [true] (CX 20 (TB Cn fun _=>false)),Cs AI 20 [true] (CX 20 iT))]
theorem dr:Ci Ur:= .cons bw <| .OG Ve cj <| .OG fe dV <| .OG Sz Ws <| .cons Sl <| .OG RE dU .nil
abbrev UQ:Ctx:=Bp Tryz.prog AI (Cv Ur)
abbrev JQ:EK:=[.int .u8,.int .u8,.int .u8,.bool,.bool]
abbrev B2:=Int × Int × Int × Bool × Bool
def Il (fn:FuncId) (i:Nat) (c:BT):Bool:=match c with
 | ⟨⟨f,_,_,.code (.seq (.region j _ _) _)::_,_,r,_,_⟩,cs,_⟩=> !r&&Nat.beq f fn&&Nat.beq cs.length 0&&Nat.beq j i
 | _=>false
def No:Stop:=⟨AF,0,3,21,[20],[3,5,29,30,31]⟩
def mJ:Stop:=⟨AF,0,3,21,[20],[3,5,6,7,29,30,31]⟩
def uV:Stop:=⟨AF,0,3,21,[20],[3,5,7,8,9,29,30,31]⟩
def xr (z:Nat) (L:Nat->Aw) (u:Nat->Int):AP:= .cells [At 21,Ao z (L 0).length,Ao (z+1) (L 1).length,Ao (z+2) (L 2).length,Ao (z+3) (L 3).length,Ao (z+4) (L 4).length,int (u 0),int (u 1),int (u 2),int (u 3),int (u 4)] 0 false
def Xj (L:Nat->Aw):BN:=[.vec Ah (L 0) false,.vec Ah (L 1) false,.vec Ah (L 2) false,.vec Ah (L 3) false,.vec Ah (L 4) false]
def Tu:List B9:=[.inLoop (A9 Tryz.prog AF [1,1,1,1,0,1,0,0]),.inBlock 0,.code (A9 Tryz.prog AF [1,1,1,1,1])]
def vU (p q:AW):List B9:= .code (A9 Tryz.prog AF p):: .code (A9 Tryz.prog AF q):: .inBlock 1:: .code (A9 Tryz.prog AF [1,1,1,1,0,1,0,0,1,1,1])::Tu
def pC (a b c:Int) (e f:Bool):AP:= .cells [.int .u8 a,.int .u8 b,.int .u8 c,.bool e,.bool f] 0 false
def jl (d:Ab) (L:Nat->Aw) (u:Nat->Int) (l:List B2) (k:Nat) (i:Int):BT:=
 ⟨⟨AF,EZ [(3,At 21),(5,At 22),(29,Ao 20 k),(30,int k),(31,int i)],BD AF,.code (A9 Tryz.prog AF [1,1,1,1,0,1,0,0])::Tu,[],false,.normal,none⟩,[],
  hp ([.vec JQ l true,.abs (.pack (.dev d)) false,xr 23 L u]++Xj L)⟩
def vz (d:Ab) (L:Nat->Aw) (u:Nat->Int) (l:List B2) (k:Nat) (i:Int) (a b c:Int) (e f:Bool):BT:=
 ⟨⟨AF,EZ [(3,At 21),(5,At 22),(6,int i),(7,At 23),(29,Ao 20 k),(30,int k),(31,int i)],BD AF,vU [1,1,1,1,0,1,0,0,1,1,0,0,1,0] [1,1,1,1,0,1,0,0,1,1,0,0,1,1],[],false,.normal,none⟩,[],
  hp ([.vec JQ l true,.abs (.pack (.dev d)) false,xr 24 L u,pC a b c e f]++Xj L)⟩
def TW (d:Ab) (L:Nat->Aw) (u:Nat->Int) (l:List B2) (k:Nat) (i:Int) (a b c:Int) (e f:Bool) (s kd q:Int) (ky vl:As):BT:=
 ⟨⟨AF,EZ [(3,At 21),(5,At 22),(7,At 23),(8,At 24),(9,int s),(29,Ao 20 k),(30,int k),(31,int i)],BD AF,vU [1,1,1,1,0,1,0,0,1,1,0,0,1,1,1,1,0] [1,1,1,1,0,1,0,0,1,1,0,0,1,1,1,1,1],[],false,.normal,none⟩,[],
  hp ([.vec JQ l true,.abs (.pack (.dev d)) false,xr 25 L u,pC a b c e f,.cells [int kd,int q,.string ky,.string vl] 0 false]++Xj L)⟩
theorem uT (d:Ab) (L:Nat->Aw) (u:Nat->Int) (l:List B2) (k:Nat) (i:Int) (Q:Bm) (R R2:Bz):NH UQ (Ax Ur) [] AF [20] No (fun c=>No.here c) mJ (fun c=>Il AF 8 c) [] Q R R2 900 (jl d L u l k i)=(
 let a:=List.getD l (0+i.toNat) (EK.BL JQ);(bif decide (i < (k:Int))then(bif decide (0<=i)&&Nat.blt i.toNat k then(bif Nat.blt (0+i.toNat) l.length then(R2 (vz d L u l k i a.1 a.2.1 a.2.2.1 a.2.2.2.1 a.2.2.2.2))else False)else False)else(Q (At 22) [some (.vec JQ l true),some (.cells [(At 21),(Ao 23 (L 0).length),(Ao 24 (L 1).length),(Ao 25 (L 2).length),(Ao 26 (L 3).length),(Ao 27 (L 4).length),(int (u 0)),(int (u 1)),(int (u 2)),(int (u 3)),(int (u 4))] 0 false)]))):=by kernel_rfl
theorem sM (d:Ab) (L:Nat->Aw) (u:Nat->Int) (l:List B2) (k:Nat) (i:Int) (a b c:Int) (e f:Bool) (Q:Bm) (R R2:Bz):NH UQ (Ax Ur) [] AF [20] No (fun c=>No.here c) uV (fun c=>Il AF 12 c) [] Q R R2 900 (vz d L u l k i a b c e f)=(
 let O:Value:= .string ({ data:=#[97] });let N:Value:= .string ({ data:=#[98] });let M:Value:= .int IntKind.u8 (Int.tmod b 4);let K:Value:= .pointer (some ⟨23,1,none⟩);let J:Value:= .string ({ data:=#[122,45,57] });let I:Value:= .string ({ data:=#[107,101,121,46,50] });let H:=((At 29):Value);let G:=Int.tmod c 40<=Int.tmod c 40;let F:=Int.tmod c 40<=140737488355328;let y:Value:= .pointer (some ⟨29,1,none⟩);let x:Value:= .pointer (some ⟨29,2,none⟩);let w:Value:= .pointer (some ⟨29,3,none⟩);let v:=Int.tmod c 40;let r:=((int i):Value)=(int i);let p:=List.replicate v.toNat (0:Int);let o:=((.int IntKind.u8 b):Value)=(.int IntKind.u8 b);let n:=IntKind.wrap .i64 (Int.tmod a 5);let m:=(M:Value)=M;let j:=(K:Value)=K;let h:=Fy (List.take v.toNat (List.drop 0 p));let g:=IntKind.wrap .i64 (i+1);let E:Prop:=R2 (TW d L u l k i a b c e f n 1 g ({ data:=#[97] }) h);let D:Prop:=R2 (TW d L u l k i a b c e f n 1 g ({ data:=#[98] }) h);let C:Prop:=R2 (TW d L u l k i a b c e f n 1 g ({ data:=#[122,45,57] }) h);let B:Prop:=R2 (TW d L u l k i a b c e f n 2 g ({ data:=#[97] }) ({ data:=#[] }));let A:Prop:=R2 (TW d L u l k i a b c e f n 2 g ({ data:=#[98] }) ({ data:=#[] }));let z:Prop:=R2 (TW d L u l k i a b c e f n 1 g ({ data:=#[107,101,121,46,50] }) h);let t:Prop:=R2 (TW d L u l k i a b c e f n 2 g ({ data:=#[122,45,57] }) ({ data:=#[] }));let s:Prop:=R2 (TW d L u l k i a b c e f n 2 g ({ data:=#[107,101,121,46,50] }) ({ data:=#[] }));let q:=((int g):Value)=(int g);(bif Int.tmod b 4==3 then(bif decide (0<=Int.tmod c 40)&&decide G&&decide F then((J:Value)=J)/\(bif Int.tmod b 4==3 then((w:Value)=w)/\m/\o/\j/\q/\r/\(bif Nat.ble (0+v.toNat) p.length then(bif e then t else C)else False)else(bif Int.tmod b 4==2 then((x:Value)=w)/\m/\o/\j/\q/\r/\(bif Nat.ble (0+v.toNat) p.length then(bif e then t else C)else False)else(bif Int.tmod b 4==1 then((y:Value)=w)/\m/\o/\j/\q/\r/\(bif Nat.ble (0+v.toNat) p.length then(bif e then t else C)else False)else(bif Int.tmod b 4==0 then(H=w)/\m/\o/\j/\q/\r/\(bif Nat.ble (0+v.toNat) p.length then(bif e then t else C)else False)else False))))else False)else(bif Int.tmod b 4==2 then(bif decide (0<=Int.tmod c 40)&&decide G&&decide F then((I:Value)=I)/\(bif Int.tmod b 4==3 then((w:Value)=x)/\m/\o/\j/\q/\r/\(bif Nat.ble (0+v.toNat) p.length then(bif e then s else z)else False)else(bif Int.tmod b 4==2 then((x:Value)=x)/\m/\o/\j/\q/\r/\(bif Nat.ble (0+v.toNat) p.length then(bif e then s else z)else False)else(bif Int.tmod b 4==1 then((y:Value)=x)/\m/\o/\j/\q/\r/\(bif Nat.ble (0+v.toNat) p.length then(bif e then s else z)else False)else(bif Int.tmod b 4==0 then(H=x)/\m/\o/\j/\q/\r/\(bif Nat.ble (0+v.toNat) p.length then(bif e then s else z)else False)else False))))else False)else(bif Int.tmod b 4==1 then(bif decide (0<=Int.tmod c 40)&&decide G&&decide F then((N:Value)=N)/\(bif Int.tmod b 4==3 then((w:Value)=y)/\m/\o/\j/\q/\r/\(bif Nat.ble (0+v.toNat) p.length then(bif e then A else D)else False)else(bif Int.tmod b 4==2 then((x:Value)=y)/\m/\o/\j/\q/\r/\(bif Nat.ble (0+v.toNat) p.length then(bif e then A else D)else False)else(bif Int.tmod b 4==1 then((y:Value)=y)/\m/\o/\j/\q/\r/\(bif Nat.ble (0+v.toNat) p.length then(bif e then A else D)else False)else(bif Int.tmod b 4==0 then(H=y)/\m/\o/\j/\q/\r/\(bif Nat.ble (0+v.toNat) p.length then(bif e then A else D)else False)else False))))else False)else(bif Int.tmod b 4==0 then(bif decide (0<=Int.tmod c 40)&&decide G&&decide F then((O:Value)=O)/\(bif Int.tmod b 4==3 then((w:Value)=(At 29))/\m/\o/\j/\q/\r/\(bif Nat.ble (0+v.toNat) p.length then(bif e then B else E)else False)else(bif Int.tmod b 4==2 then((x:Value)=(At 29))/\m/\o/\j/\q/\r/\(bif Nat.ble (0+v.toNat) p.length then(bif e then B else E)else False)else(bif Int.tmod b 4==1 then((y:Value)=(At 29))/\m/\o/\j/\q/\r/\(bif Nat.ble (0+v.toNat) p.length then(bif e then B else E)else False)else(bif Int.tmod b 4==0 then(H=(At 29))/\m/\o/\j/\q/\r/\(bif Nat.ble (0+v.toNat) p.length then(bif e then B else E)else False)else False))))else False)else False))))):=by kernel_rfl
def Xa (o:AP) (n0 n1 n2 n3 n4:Nat) (L0 L1 L2 L3 L4:Aw) (u0 u1 u2 u3 u4:Int) (l:List B2) (k:Nat) (i:Int):BT:=
 ⟨⟨AF,EZ [(3,At 21),(5,At 22),(29,Ao 20 k),(30,int k),(31,int i)],BD AF,.code (A9 Tryz.prog AF [1,1,1,1,0,1,0,0])::Tu,[],false,.normal,none⟩,[],
  hp [.vec JQ l true,o,.cells [At 21,Ao 23 n0,Ao 24 n1,Ao 25 n2,Ao 26 n3,Ao 27 n4,int u0,int u1,int u2,int u3,int u4] 0 false,.vec Ah L0 false,.vec Ah L1 false,.vec Ah L2 false,.vec Ah L3 false,.vec Ah L4 false]⟩
theorem tn (d:Ab) (L:Nat->Aw) (u:Nat->Int) (l:List B2) (k:Nat) (i:Int) (a b c:Int) (e f:Bool) (kd q:Int) (ky vl:As) (Q:Bm) (R:Bz):Iy UQ (Ax Ur) [] AF [20] No [] Q R 900 (TW d L u l k i a b c e f 0 kd q ky vl)=(
 let p:Value:= .pointer (some ⟨22,1,none⟩);let o:=((At 22):Value)=(At 22);let n:=(L 0).length+1;let m:=IntKind.wrap .i64 (i+1);let h:=List.take (L 0).length (List.drop 0 (L 0))++[(q,ky,kd==2,0,A8 d 0,((Bu ky vl):Int))];let g:=DX d 0 (List.take (Bu ky vl) (E3 kd q ky vl));let j:AP:= .abs (Ct.pack (PL.nx { v:=int g.1,nx:=Pk.dev g.2,news:=[] })) false;((Bool.rec false (J6 vl 512==0) ((kd==1||kd==2&&Jf vl)&& !decide (q < 1)&& !decide (q > 1099511627776)&&I1 ky==0))=(true))/\(Ab.down d=false/\Ba (Ab.BB d) 0=false)/\((Bool.rec false (!decide (A8 d 0 > 8192)) (DR kd q ky vl&& !decide (0 < 0)&& !decide (0≥32)&& !decide (A8 d 0 < 0)))=(true))/\(Bu ky vl<=(E3 kd q ky vl).length)/\(bif g.1 != 0 then(R (Xa j (L 0).length (L 1).length (L 2).length (L 3).length (L 4).length (L 0) (L 1) (L 2) (L 3) (L 4) (u 0) (u 1) (u 2) (u 3) (u 4) l k m))else(bif true&&Nat.ble (0+(L 0).length) (L 0).length&&BQ 56 n then((p:Value)=p)/\o/\(((int 0):Value)=(int 0))/\o/\(bif f then(((De g.2 0).1)=(0))/\(R (Xa (.abs (Ct.pack (PL.nx { v:=int 0,nx:=Pk.dev (De g.2 0).2,news:=[] })) false) n (L 1).length (L 2).length (L 3).length (L 4).length h (L 1) (L 2) (L 3) (L 4) (Int.ofNat n) (u 1) (u 2) (u 3) (u 4) l k m))else(R (Xa j n (L 1).length (L 2).length (L 3).length (L 4).length h (L 1) (L 2) (L 3) (L 4) (u 0) (u 1) (u 2) (u 3) (u 4) l k m)))else False))):=by kernel_rfl
theorem rz (d:Ab) (L:Nat->Aw) (u:Nat->Int) (l:List B2) (k:Nat) (i:Int) (a b c:Int) (e f:Bool) (kd q:Int) (ky vl:As) (Q:Bm) (R:Bz):Iy UQ (Ax Ur) [] AF [20] No [] Q R 900 (TW d L u l k i a b c e f 1 kd q ky vl)=(
 let p:Value:= .pointer (some ⟨22,1,none⟩);let o:=((At 22):Value)=(At 22);let n:=(L 1).length+1;let m:=IntKind.wrap .i64 (i+1);let h:=List.take (L 1).length (List.drop 0 (L 1))++[(q,ky,kd==2,1,A8 d 1,((Bu ky vl):Int))];let g:=DX d 1 (List.take (Bu ky vl) (E3 kd q ky vl));let j:AP:= .abs (Ct.pack (PL.nx { v:=int g.1,nx:=Pk.dev g.2,news:=[] })) false;((Bool.rec false (J6 vl 512==0) ((kd==1||kd==2&&Jf vl)&& !decide (q < 1)&& !decide (q > 1099511627776)&&I1 ky==0))=(true))/\(Ab.down d=false/\Ba (Ab.BB d) 1=false)/\((Bool.rec false (!decide (A8 d 1 > 8192)) (DR kd q ky vl&& !decide (1 < 0)&& !decide (1≥32)&& !decide (A8 d 1 < 0)))=(true))/\(Bu ky vl<=(E3 kd q ky vl).length)/\(bif g.1 != 0 then(R (Xa j (L 0).length (L 1).length (L 2).length (L 3).length (L 4).length (L 0) (L 1) (L 2) (L 3) (L 4) (u 0) (u 1) (u 2) (u 3) (u 4) l k m))else(bif true&&Nat.ble (0+(L 1).length) (L 1).length&&BQ 56 n then((p:Value)=p)/\o/\(((int 1):Value)=(int 1))/\o/\(bif f then(((De g.2 1).1)=(0))/\(R (Xa (.abs (Ct.pack (PL.nx { v:=int 0,nx:=Pk.dev (De g.2 1).2,news:=[] })) false) (L 0).length n (L 2).length (L 3).length (L 4).length (L 0) h (L 2) (L 3) (L 4) (u 0) (Int.ofNat n) (u 2) (u 3) (u 4) l k m))else(R (Xa j (L 0).length n (L 2).length (L 3).length (L 4).length (L 0) h (L 2) (L 3) (L 4) (u 0) (u 1) (u 2) (u 3) (u 4) l k m)))else False))):=by kernel_rfl
theorem qw (d:Ab) (L:Nat->Aw) (u:Nat->Int) (l:List B2) (k:Nat) (i:Int) (a b c:Int) (e f:Bool) (kd q:Int) (ky vl:As) (Q:Bm) (R:Bz):Iy UQ (Ax Ur) [] AF [20] No [] Q R 900 (TW d L u l k i a b c e f 2 kd q ky vl)=(
 let p:Value:= .pointer (some ⟨22,1,none⟩);let o:=((At 22):Value)=(At 22);let n:=(L 2).length+1;let m:=IntKind.wrap .i64 (i+1);let h:=List.take (L 2).length (List.drop 0 (L 2))++[(q,ky,kd==2,2,A8 d 2,((Bu ky vl):Int))];let g:=DX d 2 (List.take (Bu ky vl) (E3 kd q ky vl));let j:AP:= .abs (Ct.pack (PL.nx { v:=int g.1,nx:=Pk.dev g.2,news:=[] })) false;((Bool.rec false (J6 vl 512==0) ((kd==1||kd==2&&Jf vl)&& !decide (q < 1)&& !decide (q > 1099511627776)&&I1 ky==0))=(true))/\(Ab.down d=false/\Ba (Ab.BB d) 2=false)/\((Bool.rec false (!decide (A8 d 2 > 8192)) (DR kd q ky vl&& !decide (2 < 0)&& !decide (2≥32)&& !decide (A8 d 2 < 0)))=(true))/\(Bu ky vl<=(E3 kd q ky vl).length)/\(bif g.1 != 0 then(R (Xa j (L 0).length (L 1).length (L 2).length (L 3).length (L 4).length (L 0) (L 1) (L 2) (L 3) (L 4) (u 0) (u 1) (u 2) (u 3) (u 4) l k m))else(bif true&&Nat.ble (0+(L 2).length) (L 2).length&&BQ 56 n then((p:Value)=p)/\o/\(((int 2):Value)=(int 2))/\o/\(bif f then(((De g.2 2).1)=(0))/\(R (Xa (.abs (Ct.pack (PL.nx { v:=int 0,nx:=Pk.dev (De g.2 2).2,news:=[] })) false) (L 0).length (L 1).length n (L 3).length (L 4).length (L 0) (L 1) h (L 3) (L 4) (u 0) (u 1) (Int.ofNat n) (u 3) (u 4) l k m))else(R (Xa j (L 0).length (L 1).length n (L 3).length (L 4).length (L 0) (L 1) h (L 3) (L 4) (u 0) (u 1) (u 2) (u 3) (u 4) l k m)))else False))):=by kernel_rfl
theorem tv (d:Ab) (L:Nat->Aw) (u:Nat->Int) (l:List B2) (k:Nat) (i:Int) (a b c:Int) (e f:Bool) (kd q:Int) (ky vl:As) (Q:Bm) (R:Bz):Iy UQ (Ax Ur) [] AF [20] No [] Q R 900 (TW d L u l k i a b c e f 3 kd q ky vl)=(
 let p:Value:= .pointer (some ⟨22,1,none⟩);let o:=((At 22):Value)=(At 22);let n:=(L 3).length+1;let m:=IntKind.wrap .i64 (i+1);let h:=List.take (L 3).length (List.drop 0 (L 3))++[(q,ky,kd==2,3,A8 d 3,((Bu ky vl):Int))];let g:=DX d 3 (List.take (Bu ky vl) (E3 kd q ky vl));let j:AP:= .abs (Ct.pack (PL.nx { v:=int g.1,nx:=Pk.dev g.2,news:=[] })) false;((Bool.rec false (J6 vl 512==0) ((kd==1||kd==2&&Jf vl)&& !decide (q < 1)&& !decide (q > 1099511627776)&&I1 ky==0))=(true))/\(Ab.down d=false/\Ba (Ab.BB d) 3=false)/\((Bool.rec false (!decide (A8 d 3 > 8192)) (DR kd q ky vl&& !decide (3 < 0)&& !decide (3≥32)&& !decide (A8 d 3 < 0)))=(true))/\(Bu ky vl<=(E3 kd q ky vl).length)/\(bif g.1 != 0 then(R (Xa j (L 0).length (L 1).length (L 2).length (L 3).length (L 4).length (L 0) (L 1) (L 2) (L 3) (L 4) (u 0) (u 1) (u 2) (u 3) (u 4) l k m))else(bif true&&Nat.ble (0+(L 3).length) (L 3).length&&BQ 56 n then((p:Value)=p)/\o/\(((int 3):Value)=(int 3))/\o/\(bif f then(((De g.2 3).1)=(0))/\(R (Xa (.abs (Ct.pack (PL.nx { v:=int 0,nx:=Pk.dev (De g.2 3).2,news:=[] })) false) (L 0).length (L 1).length (L 2).length n (L 4).length (L 0) (L 1) (L 2) h (L 4) (u 0) (u 1) (u 2) (Int.ofNat n) (u 4) l k m))else(R (Xa j (L 0).length (L 1).length (L 2).length n (L 4).length (L 0) (L 1) (L 2) h (L 4) (u 0) (u 1) (u 2) (u 3) (u 4) l k m)))else False))):=by kernel_rfl
theorem uH (d:Ab) (L:Nat->Aw) (u:Nat->Int) (l:List B2) (k:Nat) (i:Int) (a b c:Int) (e f:Bool) (kd q:Int) (ky vl:As) (Q:Bm) (R:Bz):Iy UQ (Ax Ur) [] AF [20] No [] Q R 900 (TW d L u l k i a b c e f 4 kd q ky vl)=(
 let p:Value:= .pointer (some ⟨22,1,none⟩);let o:=((At 22):Value)=(At 22);let n:=(L 4).length+1;let m:=IntKind.wrap .i64 (i+1);let h:=List.take (L 4).length (List.drop 0 (L 4))++[(q,ky,kd==2,4,A8 d 4,((Bu ky vl):Int))];let g:=DX d 4 (List.take (Bu ky vl) (E3 kd q ky vl));let j:AP:= .abs (Ct.pack (PL.nx { v:=int g.1,nx:=Pk.dev g.2,news:=[] })) false;((Bool.rec false (J6 vl 512==0) ((kd==1||kd==2&&Jf vl)&& !decide (q < 1)&& !decide (q > 1099511627776)&&I1 ky==0))=(true))/\(Ab.down d=false/\Ba (Ab.BB d) 4=false)/\((Bool.rec false (!decide (A8 d 4 > 8192)) (DR kd q ky vl&& !decide (4 < 0)&& !decide (4≥32)&& !decide (A8 d 4 < 0)))=(true))/\(Bu ky vl<=(E3 kd q ky vl).length)/\(bif g.1 != 0 then(R (Xa j (L 0).length (L 1).length (L 2).length (L 3).length (L 4).length (L 0) (L 1) (L 2) (L 3) (L 4) (u 0) (u 1) (u 2) (u 3) (u 4) l k m))else(bif true&&Nat.ble (0+(L 4).length) (L 4).length&&BQ 56 n then((p:Value)=p)/\o/\(((int 4):Value)=(int 4))/\o/\(bif f then(((De g.2 4).1)=(0))/\(R (Xa (.abs (Ct.pack (PL.nx { v:=int 0,nx:=Pk.dev (De g.2 4).2,news:=[] })) false) (L 0).length (L 1).length (L 2).length (L 3).length n (L 0) (L 1) (L 2) (L 3) h (u 0) (u 1) (u 2) (u 3) (Int.ofNat n) l k m))else(R (Xa j (L 0).length (L 1).length (L 2).length (L 3).length n (L 0) (L 1) (L 2) (L 3) h (u 0) (u 1) (u 2) (u 3) (u 4) l k m)))else False))):=by kernel_rfl
def GR {α:Type} (L:Nat->α) (s:Nat) (x:α):Nat->α:=fun i=>bif Nat.beq i s then x else L i
structure PF where
 d:Ab
 L:Nat->Aw
 u:Nat->Int
def EF (st:PF) (s:Nat) (f:Bool) (kd q:Int) (ky vl:As):PF:=
 bif (DX st.d (s:Int) (E3 kd q ky vl)).1 != 0 then⟨(DX st.d (s:Int) (E3 kd q ky vl)).2,st.L,st.u⟩else
 bif f then⟨(De (DX st.d (s:Int) (E3 kd q ky vl)).2 (s:Int)).2,GR st.L s (st.L s++[(q,ky,kd==2,(s:Int),A8 st.d (s:Int),((Bu ky vl:Nat):Int))]),GR st.u s (Int.ofNat (st.L s++[(q,ky,kd==2,(s:Int),A8 st.d (s:Int),((Bu ky vl:Nat):Int))]).length)⟩
 else⟨(DX st.d (s:Int) (E3 kd q ky vl)).2,GR st.L s (st.L s++[(q,ky,kd==2,(s:Int),A8 st.d (s:Int),((Bu ky vl:Nat):Int))]),st.u⟩
structure P7 (st:PF) (s:Nat) (f:Bool) (kd q:Int) (ky vl:As):Prop where
 ok:DR kd q ky vl=true
 dn:st.d.down=false
 bad:Ba st.d.BB (s:Int)=false
 GQ:L6 kd q ky vl (s:Int) (A8 st.d (s:Int))=true
 y4:((DX st.d (s:Int) (E3 kd q ky vl)).1 != 0)=false->f=true->(De (DX st.d (s:Int) (E3 kd q ky vl)).2 (s:Int)).1=0
 ln:(st.L s).length < 1000
theorem NW (A B:Bool) (h:(A&&B)=true):(Bool.rec (motive:=fun _=>Bool) false B A)=true:=by
 cases A<;>exact h
theorem KI (A B:Bool) (h:(A&&B)=true):(Bool.rec (motive:=fun _=>Bool) false B A)=true:=by
 cases A<;>exact h
theorem F0 (d:Ab) (L:Nat->Aw) (u:Nat->Int) (l:List B2) (k:Nat) (i:Int):Xa (.abs (.pack (.dev d)) false) (L 0).length (L 1).length (L 2).length (L 3).length (L 4).length (L 0) (L 1) (L 2) (L 3) (L 4) (u 0) (u 1) (u 2) (u 3) (u 4) l k i=jl d L u l k i:=by kernel_rfl
theorem mv {st:PF} {l:List B2} {k i:Nat} {a b c:Int} {e f:Bool} {kd q:Int} {ky vl:As} (h:P7 st 0 f kd q ky vl) (hi:i < 1000):Iy UQ (Ax Ur) [] AF [20] No [] (fun _ _=>False) (fun c=>c=jl (EF st 0 f kd q ky vl).d (EF st 0 f kd q ky vl).L (EF st 0 f kd q ky vl).u l k ((i+1:Nat):Int)) 900 (TW st.d st.L st.u l k (i:Nat) a b c e f (((0:Nat)):Int) kd q ky vl):=by
 have hw:IntKind.wrap .i64 ((i:Int)+1)=((i+1:Nat):Int):=by rw[wrap64 (by omega) (by omega)];rfl
 have hz:(((0:Nat)):Int)=0:=rfl;obtain⟨h1,h2,h3,h4,h5,h6⟩:=h;obtain⟨d,L,u⟩:=st
 change (L 0).length < 1000 at h6
 rw[hz]at h3 h4 h5 ⊢;rw[tn];(conv=>zeta);rw[hw]
 have et:List.take (Bu ky vl) (E3 kd q ky vl)=E3 kd q ky vl:=Pb (by rw[E9];exact CC _);have eL:List.take (L 0).length (List.drop 0 (L 0))=L 0:=by rw[O9,Pb (CC _)]
 rw[et,eL];refine⟨NW _ _ h1,⟨h2,h3⟩,KI _ _ h4,by rw[E9];exact CC _,?_⟩;have hc:(true&&Nat.ble (0+(L 0).length) (L 0).length&&BQ 56 ((L 0).length+1))=true:=by
  rw[Hq,B0 (CC _),Lu (by omega)];rfl
 have hlen:(L 0).length+1=(L 0++[(q,ky,kd==2,0,A8 d 0,((Bu ky vl:Nat):Int))]).length:=by rw[Fu];rfl
 unfold EF;rw[hz];refine BX (fun c1=>?_) fun c1=>AB hc ⟨rfl,rfl,rfl,rfl,BX (fun c2=>⟨h5 c1 c2,?_⟩) fun c2=>?_⟩
 ·rw[c1];exact F0 _ L u l k _
 ·rw[c1,c2,hlen];exact F0 _ (GR L 0 _) (GR u 0 _) l k _
 ·rw[c1,c2,hlen];exact F0 _ (GR L 0 _) u l k _
theorem mL {st:PF} {l:List B2} {k i:Nat} {a b c:Int} {e f:Bool} {kd q:Int} {ky vl:As} (h:P7 st 1 f kd q ky vl) (hi:i < 1000):Iy UQ (Ax Ur) [] AF [20] No [] (fun _ _=>False) (fun c=>c=jl (EF st 1 f kd q ky vl).d (EF st 1 f kd q ky vl).L (EF st 1 f kd q ky vl).u l k ((i+1:Nat):Int)) 900 (TW st.d st.L st.u l k (i:Nat) a b c e f (((1:Nat)):Int) kd q ky vl):=by
 have hw:IntKind.wrap .i64 ((i:Int)+1)=((i+1:Nat):Int):=by rw[wrap64 (by omega) (by omega)];rfl
 have hz:(((1:Nat)):Int)=1:=rfl;obtain⟨h1,h2,h3,h4,h5,h6⟩:=h;obtain⟨d,L,u⟩:=st
 change (L 1).length < 1000 at h6
 rw[hz]at h3 h4 h5 ⊢;rw[rz];(conv=>zeta);rw[hw]
 have et:List.take (Bu ky vl) (E3 kd q ky vl)=E3 kd q ky vl:=Pb (by rw[E9];exact CC _);have eL:List.take (L 1).length (List.drop 0 (L 1))=L 1:=by rw[O9,Pb (CC _)]
 rw[et,eL];refine⟨NW _ _ h1,⟨h2,h3⟩,KI _ _ h4,by rw[E9];exact CC _,?_⟩;have hc:(true&&Nat.ble (0+(L 1).length) (L 1).length&&BQ 56 ((L 1).length+1))=true:=by
  rw[Hq,B0 (CC _),Lu (by omega)];rfl
 have hlen:(L 1).length+1=(L 1++[(q,ky,kd==2,1,A8 d 1,((Bu ky vl:Nat):Int))]).length:=by rw[Fu];rfl
 unfold EF;rw[hz];refine BX (fun c1=>?_) fun c1=>AB hc ⟨rfl,rfl,rfl,rfl,BX (fun c2=>⟨h5 c1 c2,?_⟩) fun c2=>?_⟩
 ·rw[c1];exact F0 _ L u l k _
 ·rw[c1,c2,hlen];exact F0 _ (GR L 1 _) (GR u 1 _) l k _
 ·rw[c1,c2,hlen];exact F0 _ (GR L 1 _) u l k _
theorem oT {st:PF} {l:List B2} {k i:Nat} {a b c:Int} {e f:Bool} {kd q:Int} {ky vl:As} (h:P7 st 2 f kd q ky vl) (hi:i < 1000):Iy UQ (Ax Ur) [] AF [20] No [] (fun _ _=>False) (fun c=>c=jl (EF st 2 f kd q ky vl).d (EF st 2 f kd q ky vl).L (EF st 2 f kd q ky vl).u l k ((i+1:Nat):Int)) 900 (TW st.d st.L st.u l k (i:Nat) a b c e f (((2:Nat)):Int) kd q ky vl):=by
 have hw:IntKind.wrap .i64 ((i:Int)+1)=((i+1:Nat):Int):=by rw[wrap64 (by omega) (by omega)];rfl
 have hz:(((2:Nat)):Int)=2:=rfl;obtain⟨h1,h2,h3,h4,h5,h6⟩:=h;obtain⟨d,L,u⟩:=st
 change (L 2).length < 1000 at h6
 rw[hz]at h3 h4 h5 ⊢;rw[qw];(conv=>zeta);rw[hw]
 have et:List.take (Bu ky vl) (E3 kd q ky vl)=E3 kd q ky vl:=Pb (by rw[E9];exact CC _);have eL:List.take (L 2).length (List.drop 0 (L 2))=L 2:=by rw[O9,Pb (CC _)]
 rw[et,eL];refine⟨NW _ _ h1,⟨h2,h3⟩,KI _ _ h4,by rw[E9];exact CC _,?_⟩;have hc:(true&&Nat.ble (0+(L 2).length) (L 2).length&&BQ 56 ((L 2).length+1))=true:=by
  rw[Hq,B0 (CC _),Lu (by omega)];rfl
 have hlen:(L 2).length+1=(L 2++[(q,ky,kd==2,2,A8 d 2,((Bu ky vl:Nat):Int))]).length:=by rw[Fu];rfl
 unfold EF;rw[hz];refine BX (fun c1=>?_) fun c1=>AB hc ⟨rfl,rfl,rfl,rfl,BX (fun c2=>⟨h5 c1 c2,?_⟩) fun c2=>?_⟩
 ·rw[c1];exact F0 _ L u l k _
 ·rw[c1,c2,hlen];exact F0 _ (GR L 2 _) (GR u 2 _) l k _
 ·rw[c1,c2,hlen];exact F0 _ (GR L 2 _) u l k _
theorem nh {st:PF} {l:List B2} {k i:Nat} {a b c:Int} {e f:Bool} {kd q:Int} {ky vl:As} (h:P7 st 3 f kd q ky vl) (hi:i < 1000):Iy UQ (Ax Ur) [] AF [20] No [] (fun _ _=>False) (fun c=>c=jl (EF st 3 f kd q ky vl).d (EF st 3 f kd q ky vl).L (EF st 3 f kd q ky vl).u l k ((i+1:Nat):Int)) 900 (TW st.d st.L st.u l k (i:Nat) a b c e f (((3:Nat)):Int) kd q ky vl):=by
 have hw:IntKind.wrap .i64 ((i:Int)+1)=((i+1:Nat):Int):=by rw[wrap64 (by omega) (by omega)];rfl
 have hz:(((3:Nat)):Int)=3:=rfl;obtain⟨h1,h2,h3,h4,h5,h6⟩:=h;obtain⟨d,L,u⟩:=st
 change (L 3).length < 1000 at h6
 rw[hz]at h3 h4 h5 ⊢;rw[tv];(conv=>zeta);rw[hw]
 have et:List.take (Bu ky vl) (E3 kd q ky vl)=E3 kd q ky vl:=Pb (by rw[E9];exact CC _);have eL:List.take (L 3).length (List.drop 0 (L 3))=L 3:=by rw[O9,Pb (CC _)]
 rw[et,eL];refine⟨NW _ _ h1,⟨h2,h3⟩,KI _ _ h4,by rw[E9];exact CC _,?_⟩;have hc:(true&&Nat.ble (0+(L 3).length) (L 3).length&&BQ 56 ((L 3).length+1))=true:=by
  rw[Hq,B0 (CC _),Lu (by omega)];rfl
 have hlen:(L 3).length+1=(L 3++[(q,ky,kd==2,3,A8 d 3,((Bu ky vl:Nat):Int))]).length:=by rw[Fu];rfl
 unfold EF;rw[hz];refine BX (fun c1=>?_) fun c1=>AB hc ⟨rfl,rfl,rfl,rfl,BX (fun c2=>⟨h5 c1 c2,?_⟩) fun c2=>?_⟩
 ·rw[c1];exact F0 _ L u l k _
 ·rw[c1,c2,hlen];exact F0 _ (GR L 3 _) (GR u 3 _) l k _
 ·rw[c1,c2,hlen];exact F0 _ (GR L 3 _) u l k _
theorem nj {st:PF} {l:List B2} {k i:Nat} {a b c:Int} {e f:Bool} {kd q:Int} {ky vl:As} (h:P7 st 4 f kd q ky vl) (hi:i < 1000):Iy UQ (Ax Ur) [] AF [20] No [] (fun _ _=>False) (fun c=>c=jl (EF st 4 f kd q ky vl).d (EF st 4 f kd q ky vl).L (EF st 4 f kd q ky vl).u l k ((i+1:Nat):Int)) 900 (TW st.d st.L st.u l k (i:Nat) a b c e f (((4:Nat)):Int) kd q ky vl):=by
 have hw:IntKind.wrap .i64 ((i:Int)+1)=((i+1:Nat):Int):=by rw[wrap64 (by omega) (by omega)];rfl
 have hz:(((4:Nat)):Int)=4:=rfl;obtain⟨h1,h2,h3,h4,h5,h6⟩:=h;obtain⟨d,L,u⟩:=st
 change (L 4).length < 1000 at h6
 rw[hz]at h3 h4 h5 ⊢;rw[uH];(conv=>zeta);rw[hw]
 have et:List.take (Bu ky vl) (E3 kd q ky vl)=E3 kd q ky vl:=Pb (by rw[E9];exact CC _);have eL:List.take (L 4).length (List.drop 0 (L 4))=L 4:=by rw[O9,Pb (CC _)]
 rw[et,eL];refine⟨NW _ _ h1,⟨h2,h3⟩,KI _ _ h4,by rw[E9];exact CC _,?_⟩;have hc:(true&&Nat.ble (0+(L 4).length) (L 4).length&&BQ 56 ((L 4).length+1))=true:=by
  rw[Hq,B0 (CC _),Lu (by omega)];rfl
 have hlen:(L 4).length+1=(L 4++[(q,ky,kd==2,4,A8 d 4,((Bu ky vl:Nat):Int))]).length:=by rw[Fu];rfl
 unfold EF;rw[hz];refine BX (fun c1=>?_) fun c1=>AB hc ⟨rfl,rfl,rfl,rfl,BX (fun c2=>⟨h5 c1 c2,?_⟩) fun c2=>?_⟩
 ·rw[c1];exact F0 _ L u l k _
 ·rw[c1,c2,hlen];exact F0 _ (GR L 4 _) (GR u 4 _) l k _
 ·rw[c1,c2,hlen];exact F0 _ (GR L 4 _) u l k _
def rl (n s:Int):Ab:=⟨(nf n.toNat s).map fun a=>⟨a,0,[]⟩,none,n,0,false⟩
def Mc (m:Nat):Nat:=Int.toNat (if (50:Int) < Int.ofNat m then 50 else Int.ofNat m) - 0
def yC (d:Ab) (l:List B2) (k:Nat):BT:=
 ⟨⟨AF,EZ [(3,At 21),(5,At 22),(29,Ao 20 k),(30,int k),(31,int 0)],BD AF,.code (A9 Tryz.prog AF [1,1,1,1,0,1,0,0])::Tu,[],false,.normal,none⟩,[],
  hp [.vec JQ l true,.abs (.pack (.dev d)) false,.cells [At 21,.slice none 0 0,.slice none 0 0,.slice none 0 0,.slice none 0 0,.slice none 0 0,int 0,int 0,int 0,int 0,int 0] 0 false]⟩
theorem ti (l:List B2) (m:Nat) (Q:Bm) (R:Bz):Iy UQ (Ax Ur) [] AF [20] No [] Q R 900 (st AF [Ao 20 m] (hp [.vec JQ l true]))=(
 let a:=if 50 < Int.ofNat m then 50 else Int.ofNat m;((2:Int)<=5/\(5:Int)<=32/\(1:Int)<=600/\(600:Int)<=8192)/\(bif decide (0<=if 50 < Int.ofNat m then 50 else Int.ofNat m)&&Nat.ble a.toNat m&&decide (0<=0)&&Nat.ble 0 a.toNat then(R (yC (rl 5 600) l (Mc m)))else False)):=by kernel_rfl
def Fq (m:Int):As:=if m=0 then { data:=#[97] } else if m=1 then { data:=#[98] } else if m=2 then { data:=#[107,101,121,46,50] } else { data:=#[122,45,57] }
def ZG (c:Int):As:=Fy (List.take (Int.toNat (Int.tmod c 40)) (List.drop 0 (List.replicate (Int.toNat (Int.tmod c 40)) (0:Int))))
structure Ld (p:B2):Prop where
 a0:0<=p.1
 a1:p.1 < 256
 b0:0<=p.2.1
 b1:p.2.1 < 256
 c0:0<=p.2.2.1
 c1:p.2.2.1 < 256
def DZ (p:B2):Nat:=(Int.tmod p.1 5).toNat
def M1 (p:B2):Int:=bif p.2.2.2.1 then 2 else 1
def LO (p:B2):As:=bif p.2.2.2.1 then { data:=#[] } else ZG p.2.2.1
theorem MJ {b m:Int} (h0:0<=b) (hn:0 < m):0<=Int.tmod b m/\Int.tmod b m < m:=by
 rw[ABx h0];exact⟨Int.emod_nonneg _ (by omega),Int.emod_lt_of_pos _ hn⟩
theorem js {d:Ab} {L:Nat->Aw} {u:Nat->Int} {l:List B2} {k:Nat} {i:Int} {p:B2} (hp:Ld p):
 NH UQ (Ax Ur) [] AF [20] No (fun c=>No.here c) uV (fun c=>Il AF 12 c) [] (fun _ _=>False) (fun _=>False) (fun c=>c=TW d L u l k i p.1 p.2.1 p.2.2.1 p.2.2.2.1 p.2.2.2.2 ((DZ p:Nat):Int) (M1 p) (IntKind.wrap .i64 (i+1)) (Fq (Int.tmod p.2.1 4)) (LO p)) 900 (vz d L u l k i p.1 p.2.1 p.2.2.1 p.2.2.2.1 p.2.2.2.2):=by
 obtain⟨a,b,c,e,f⟩:=p;obtain⟨a0,a1,b0,b1,c0,c1⟩:=hp;simp only at a0 a1 b0 b1 c0 c1;obtain⟨m0,m1⟩:=MJ (m:=4) b0 (by decide);obtain⟨n0,n1⟩:=MJ (m:=40) c0 (by decide);obtain⟨r0,r1⟩:=MJ (m:=5) a0 (by decide);have hs:IntKind.wrap .i64 (Int.tmod a 5)=((DZ (a,b,c,e,f):Nat):Int):=by
  unfold DZ;rw[wrap64 (by omega) (by omega)];show Int.tmod a 5=(((Int.tmod a 5).toNat:Nat):Int);omega
 rw[sM];(conv=>zeta);rw[hs]
 have t1:(decide (0<=Int.tmod c 40)&&decide (Int.tmod c 40<=Int.tmod c 40)&&decide (Int.tmod c 40<=140737488355328))=true:=by
  rw[Fp n0,Fp (ld _),Fp (show Int.tmod c 40<=140737488355328 by omega)];rfl
 have t2:Nat.ble (0+Int.toNat (Int.tmod c 40)) (List.length (List.replicate (Int.toNat (Int.tmod c 40)) (0:Int)))=true:=by
  rw[Xu,Hq];exact B0 (CC _)
 rw[t1,t2];rcases(show Int.tmod b 4=0∨Int.tmod b 4=1∨Int.tmod b 4=2∨Int.tmod b 4=3 by omega)with hb | hb | hb | hb
 all_goals
  rw[hb];show bif _ then _ else _
  cases e
  all_goals
   repeat' first
    | exact rfl
    | refine⟨rfl,?_⟩
    | refine AZ rfl ?_
    | refine AB rfl ?_
theorem tk (d:Ab) (L:Nat->Aw) (u:Nat->Int) (l:List B2) (k:Nat) (i:Int) (Q:Bm) (R R2:Bz):NH UQ (Ax Ur) [] AF [20,21,23,24,25,26,27] No (fun c=>No.here c) mJ (fun c=>Il AF 8 c) [] Q R R2 900 (jl d L u l k i)=(
 let a:=List.getD l (0+i.toNat) (EK.BL JQ);(bif decide (i < (k:Int))then(bif decide (0<=i)&&Nat.blt i.toNat k then(bif Nat.blt (0+i.toNat) l.length then(R2 (vz d L u l k i a.1 a.2.1 a.2.2.1 a.2.2.2.1 a.2.2.2.2))else False)else False)else(Q (At 22) [some (.vec JQ l true),some (.abs (Ct.pack (Pk.dev d)) false),some (.vec Ah (L 0) false),some (.vec Ah (L 1) false),some (.vec Ah (L 2) false),some (.vec Ah (L 3) false),some (.vec Ah (L 4) false),some (.cells [(At 21),(Ao 23 (L 0).length),(Ao 24 (L 1).length),(Ao 25 (L 2).length),(Ao 26 (L 3).length),(Ao 27 (L 4).length),(int (u 0)),(int (u 1)),(int (u 2)),(int (u 3)),(int (u 4))] 0 false)]))):=by kernel_rfl
def PJ (l:List B2) (i:Nat):B2:=List.getD l i (EK.BL JQ)
def QP (st:PF) (i:Nat) (p:B2):PF:=EF st (DZ p) p.2.2.2.2 (M1 p) ((i+1:Nat):Int) (Fq (Int.tmod p.2.1 4)) (LO p)
def VB (st:PF) (i:Nat) (p:B2):Prop:=Ld p/\P7 st (DZ p) p.2.2.2.2 (M1 p) ((i+1:Nat):Int) (Fq (Int.tmod p.2.1 4)) (LO p)
def Eo (l:List B2):Nat->Nat->PF->PF
 | 0,_,st=>st
 | n+1,i,st=>Eo l n (i+1) (QP st i (PJ l i))
def WI (l:List B2):Nat->Nat->PF->Prop
 | 0,_,_=>True
 | n+1,i,st=>VB st i (PJ l i)/\WI l n (i+1) (QP st i (PJ l i))
def Oo:PF:=⟨rl 5 600,fun _=>[],fun _=>0⟩
def sa (st:PF) (l:List B2):LR:=[some (.vec JQ l true),some (.abs (.pack (.dev st.d)) false),some (.vec Ah (st.L 0) false),some (.vec Ah (st.L 1) false),some (.vec Ah (st.L 2) false),some (.vec Ah (st.L 3) false),some (.vec Ah (st.L 4) false),some (xr 23 st.L st.u)]
def qj (st:PF) (l:List B2) (v:Value) (H:AA):Prop:=v=At 22/\[20,21,23,24,25,26,27,22].map H.get=sa st l
theorem bD {p:B2} (h:Ld p):DZ p < 5:=by
 obtain⟨r0,r1⟩:=MJ (m:=5) h.a0 (by decide);unfold DZ;omega
theorem tx {s:Nat} (hs:s < 5) {st:PF} {l:List B2} {k i:Nat} {a b c:Int} {e f:Bool} {kd q:Int} {ky vl:As} (h:P7 st s f kd q ky vl) (hi:i < 1000):Iy UQ (Ax Ur) [] AF [20] No [] (fun _ _=>False) (fun c=>c=jl (EF st s f kd q ky vl).d (EF st s f kd q ky vl).L (EF st s f kd q ky vl).u l k ((i+1:Nat):Int)) 900 (TW st.d st.L st.u l k (i:Nat) a b c e f ((s:Nat):Int) kd q ky vl):=by
 match s,hs,h with
 | 0,_,h=>exact mv h hi
 | 1,_,h=>exact mL h hi
 | 2,_,h=>exact oT h hi
 | 3,_,h=>exact nh h hi
 | 4,_,h=>exact nj h hi
 | s+5,hs,_=>exact absurd hs (by omega)
theorem mj {l:List B2} {k:Nat} (hk:k<=l.length) (hk2:k<=50):∀(n i:Nat) (st:PF),k - i=n->i<=k->WI l n i st->AX UQ 21 AF (qj (Eo l n i st) l) (jl st.d st.L st.u l k (i:Nat)):=by
 intro n;induction n with
 | zero=>
  intro i st hn hi _;refine IH dr.pf (M:=21) (S:=No) (S2:=mJ) (h1:=fun c=>No.here c) (h2:=fun c=>Il AF 8 c) (ks:=[]) (hs:=[]) (ids:=[20,21,23,24,25,26,27]) (by kernel_rfl) (by decide) (by decide) (Q:=fun v os=>v=At 22/\os=sa st l) (R:=fun _=>False) (R2:=fun _=>False) (fun v H hq=>?_) (fun c h=>h.elim) (fun c h=>h.elim) 900 _ ?_
  ·obtain⟨rfl,hos⟩:=hq;exact⟨rfl,hos⟩
  ·rw[tk];exact AZ (GP (by omega)) ⟨rfl,rfl⟩
 | succ n ih=>
  intro i st hn hi hall;obtain⟨⟨hp,h1⟩,h2⟩:=hall;have hik:i < k:=by omega
  refine IH dr.pf (M:=21) (S:=No) (S2:=mJ) (h1:=fun c=>No.here c) (h2:=fun c=>Il AF 8 c) (ks:=[]) (hs:=[]) (ids:=[20]) (by kernel_rfl) (by decide) (by decide) (Q:=fun _ _=>False) (R:=fun _=>False) (R2:=fun c=>c=vz st.d st.L st.u l k (i:Nat) (PJ l i).1 (PJ l i).2.1 (PJ l i).2.2.1 (PJ l i).2.2.2.1 (PJ l i).2.2.2.2) (fun v H h=>h.elim) (fun c h=>h.elim) (fun c hc=>?_) 900 _ ?_
  ·rw[hc];refine IH dr.pf (M:=21) (S:=No) (S2:=uV) (h1:=fun c=>No.here c) (h2:=fun c=>Il AF 12 c) (ks:=[]) (hs:=[]) (ids:=[20]) (by kernel_rfl) (by decide) (by decide) (Q:=fun _ _=>False) (R:=fun _=>False) (R2:=_) (fun v H h=>h.elim) (fun c h=>h.elim) (fun c hc=>?_) 900 _ (js hp);rw[hc];have hw:IntKind.wrap .i64 ((i:Int)+1)=((i+1:Nat):Int):=by rw[wrap64 (by omega) (by omega)];rfl
   rw[hw];refine Bq dr.pf [] [20] No [] (by kernel_rfl) (show 21<=21 from CC _) (fun _ _=>False) _ (fun v H h=>h.elim) (fun c hc=>?_) (n:=900) (tx (bD hp) h1 (by omega));rw[hc];exact ih (i+1) _ (by omega) (by omega) h2
  ·rw[uT];(conv=>zeta)
   simp only[HR,Hq];exact AB (Fp (by omega)) (AB (EI hik) (AB (Gc (by omega)) rfl))
def xy (args:AL) (objs:BN):GT:=match args,objs with
 | [.slice (some ⟨20,0,some 0⟩) m 18446744073709551616],[.vec [.int .u8,.int .u8,.int .u8,.bool,.bool] l _]=> .ask (m=l.length/\WI l (Mc m) 0 Oo) (.ret ⟨At 21,[],[.cells [At 22,Ao 23 ((Eo l (Mc m) 0 Oo).L 0).length,Ao 24 ((Eo l (Mc m) 0 Oo).L 1).length,Ao 25 ((Eo l (Mc m) 0 Oo).L 2).length,Ao 26 ((Eo l (Mc m) 0 Oo).L 3).length,Ao 27 ((Eo l (Mc m) 0 Oo).L 4).length,int ((Eo l (Mc m) 0 Oo).u 0),int ((Eo l (Mc m) 0 Oo).u 1),int ((Eo l (Mc m) 0 Oo).u 2),int ((Eo l (Mc m) 0 Oo).u 3),int ((Eo l (Mc m) 0 Oo).u 4)] 0 false,
  .abs (.pack (.dev (Eo l (Mc m) 0 Oo).d)) false,.vec Ah ((Eo l (Mc m) 0 Oo).L 0) false,.vec Ah ((Eo l (Mc m) 0 Oo).L 1) false,.vec Ah ((Eo l (Mc m) 0 Oo).L 2) false,.vec Ah ((Eo l (Mc m) 0 Oo).L 3) false,.vec Ah ((Eo l (Mc m) 0 Oo).L 4) false]⟩)
 | _,_=> .fail
theorem jZ {d:Ab} {l:List B2} {k:Nat} {Q:Ih} (hT:AX UQ 21 AF Q (jl d (fun _=>[]) (fun _=>0) l k ((0:Nat):Int))):AX UQ 21 AF Q (yC d l k):=by
 refine A5.Gh 22 5 Ah [At 21] [.slice none 0 0,.slice none 0 0,.slice none 0 0,.slice none 0 0,int 0,int 0,int 0,int 0,int 0] (e:=0) (ro:=false) (b':=22) (o:=0) (s:=none) (by kernel_rfl) (by kernel_rfl) (by kernel_rfl) (by kernel_rfl) (by decide) ?_;refine A5.Gh 22 5 Ah [At 21,Ao 23 0] [.slice none 0 0,.slice none 0 0,.slice none 0 0,int 0,int 0,int 0,int 0,int 0] (e:=0) (ro:=false) (b':=22) (o:=0) (s:=none) (by kernel_rfl) (by kernel_rfl) (by kernel_rfl) (by kernel_rfl) (by decide) ?_;refine A5.Gh 22 5 Ah [At 21,Ao 23 0,Ao 24 0] [.slice none 0 0,.slice none 0 0,int 0,int 0,int 0,int 0,int 0] (e:=0) (ro:=false) (b':=22) (o:=0) (s:=none) (by kernel_rfl) (by kernel_rfl) (by kernel_rfl) (by kernel_rfl) (by decide) ?_;refine A5.Gh 22 5 Ah [At 21,Ao 23 0,Ao 24 0,Ao 25 0] [.slice none 0 0,int 0,int 0,int 0,int 0,int 0] (e:=0) (ro:=false) (b':=22) (o:=0) (s:=none) (by kernel_rfl) (by kernel_rfl) (by kernel_rfl) (by kernel_rfl) (by decide) ?_;refine A5.Gh 22 5 Ah [At 21,Ao 23 0,Ao 24 0,Ao 25 0,Ao 26 0] [int 0,int 0,int 0,int 0,int 0] (e:=0) (ro:=false) (b':=22) (o:=0) (s:=none) (by kernel_rfl) (by kernel_rfl) (by kernel_rfl) (by kernel_rfl) (by decide) ?_;refine cast ?_ hT;kernel_rfl
theorem Xn (m:Nat):Mc m<=m/\Mc m<=50:=by
 unfold Mc;split
 ·rename_i h;have h:(50:Int) < (m:Int):=h;show Int.toNat 50 - 0<=m/\Int.toNat 50 - 0<=50;have:Int.toNat 50=50:=rfl;omega
 ·rename_i h;have h:¬(50:Int) < (m:Int):=h;show m - 0<=m/\m - 0<=50;omega
theorem vQ (m:Nat):(decide ((0:Int)<=if (50:Int) < Int.ofNat m then 50 else Int.ofNat m)&&Nat.ble (Int.toNat (if (50:Int) < Int.ofNat m then 50 else Int.ofNat m)) m&&decide ((0:Nat)<=0)&&Nat.ble 0 (Int.toNat (if (50:Int) < Int.ofNat m then 50 else Int.ofNat m)))=true:=by
 have h1:Int.toNat (if (50:Int) < Int.ofNat m then 50 else Int.ofNat m)<=m:=(Xn m).1;have h0:(0:Int)<=if (50:Int) < Int.ofNat m then 50 else Int.ofNat m:=by
  split
  ·decide
  ·exact WQ m
 rw[Fp h0,B0 h1,B0 (PM _)];rfl
theorem gH:CY Tryz.prog AI AF (Ai AI 20 [] xy):=by
 refine BF dr.all (by kernel_rfl) (n:=BD AF) (by kernel_rfl) (by kernel_rfl) fun argsc objs x hx hro=>?_
 clear hro;unfold xy at hx;split at hx
 ·rename_i m l ro;simp only[GT.run]at hx;split at hx
  ·rename_i hp0;cases hx
   obtain⟨rfl,hall⟩:=hp0;generalize hst:Eo l (Mc l.length) 0 Oo=st;refine⟨VC (by kernel_rfl),Ak.mono (AX.Fh (Q:=qj st l) ?_) ?_⟩
   ·obtain⟨k1,k2⟩:=Xn l.length;refine Bq dr.pf [] [20] No [] (by kernel_rfl) (show 21<=21 from CC _) (fun _ _=>False) (fun c=>c=yC (rl 5 600) l (Mc l.length)) (fun v H h=>h.elim) (fun c hc=>?_) (n:=900) (c:=Go.AD.st AF [Ao 20 l.length] (hp [.vec JQ l true])) ?_
    ·rw[hc];have:=mj (l:=l) (k:=Mc l.length) k1 k2 _ 0 Oo rfl (PM _) hall;rw[vI,hst]at this;exact jZ this
    ·rw[ti];exact⟨by decide,AB (vQ _) rfl⟩
   ·rintro v H ⟨rfl,hos⟩;unfold sa at hos;simp only[X5,iR,JB,dM]at hos;obtain⟨g20,g21,g23,g24,g25,g26,g27,g22⟩:=hos;refine⟨[22,21,23,24,25,26,27],by decide,fun b hb=>?_,rfl,rfl,fun j b o hj ho=>?_,fun j o hj=>?_⟩
    ·simp only[WL,Yk,lG]at hb;show 21<=b;omega
    ·match j,hj,ho with
     | 0,hj,ho=>cases hj;cases ho;exact⟨_,rfl,g22⟩
     | 1,hj,ho=>cases hj;cases ho;exact⟨_,rfl,g21⟩
     | 2,hj,ho=>cases hj;cases ho;exact⟨_,rfl,g23⟩
     | 3,hj,ho=>cases hj;cases ho;exact⟨_,rfl,g24⟩
     | 4,hj,ho=>cases hj;cases ho;exact⟨_,rfl,g25⟩
     | 5,hj,ho=>cases hj;cases ho;exact⟨_,rfl,g26⟩
     | 6,hj,ho=>cases hj;cases ho;exact⟨_,rfl,g27⟩
     | j+7,hj,_=>cases hj
    ·intro hm;cases hm
  ·cases hx
 ·cases hx
def wK:Stop:=⟨A6,0,3,22,[20,21],[0,1,12,13]⟩
def ux (l1 l2:Aw) (n m:Nat) (i:Int):BT:=
 ⟨⟨A6,EZ [(0,Ao 20 n),(1,Ao 21 m),(12,int n),(13,int i)],BD A6,[.code (A9 Tryz.prog A6 [1,1,0,1,0,0]),.inLoop (A9 Tryz.prog A6 [1,1,0,1,0,0]),.inBlock 0,.code (A9 Tryz.prog A6 [1,1,1])],[],false,.normal,none⟩,[],hp [.vec Ah l1 true,.vec Ah l2 true]⟩
theorem uN (l1 l2:Aw) (n m:Nat) (Q:Bm) (R:Bz):Iy xI (Ax u6) [] A6 [] wK [] Q R 300 (st A6 [Ao 20 n,Ao 21 m] (hp [.vec Ah l1 true,.vec Ah l2 true]))=(
 (bif Int.ofNat n != Int.ofNat m then(Q (.bool false) [])else(R (ux l1 l2 n m 0)))):=by kernel_rfl
theorem qd (l1 l2:Aw) (n m:Nat) (i:Int) (Q:Bm) (R:Bz):Iy xI (Ax u6) [] A6 [] wK [] Q R 300 (ux l1 l2 n m i)=(
 let b:=List.getD l2 (0+i.toNat) (EK.BL Ah);let a:=List.getD l1 (0+i.toNat) (EK.BL Ah);(bif decide (i < (n:Int))then(bif decide (0<=i)&&Nat.blt i.toNat n then(bif Nat.blt (0+i.toNat) l1.length then(bif decide (0<=i)&&Nat.blt i.toNat m then(bif Nat.blt (0+i.toNat) l2.length then(bif !(a.1==b.1&&(ByteArray.toList a.2.1==ByteArray.toList b.2.1&&(a.2.2.1==b.2.2.1&&(a.2.2.2.1==b.2.2.2.1&&(a.2.2.2.2.1==b.2.2.2.2.1&&(a.2.2.2.2.2==b.2.2.2.2.2&&true))))))then(Q (.bool false) [])else(R (ux l1 l2 n m (IntKind.wrap .i64 (i+1)))))else False)else False)else False)else False)else(Q (.bool true) []))):=by kernel_rfl
structure PR (l1 l2:Aw) (n m:Nat):Prop where
 h1:n<=l1.length
 h2:m<=l2.length
 e:l1.take n=l2.take m
 hb:n < 100000
theorem PR.len {l1 l2:Aw} {n m:Nat} (h:PR l1 l2 n m):n=m:=by
 have:=congrArg List.length h.e;rw[IP,IP]at this;have:=h.h1;have:=h.h2;omega
theorem PR.at {l1 l2:Aw} {n m i:Nat} (h:PR l1 l2 n m) (hi:i < n):List.getD l1 i (EK.BL Ah)=List.getD l2 i (EK.BL Ah):=by
 have e:=congrArg (fun l=>l[i]?) h.e;simp only[Yy]at e;rw[HI hi,HI (by rw[<-h.len];exact hi)]at e;rw[F5,F5,e]
theorem mn {l1 l2:Aw} {n m:Nat} (h:PR l1 l2 n m):∀(k i:Nat),n - i=k->i<=n->AX xI 22 A6 (fun v _=>v= .bool true) (ux l1 l2 n m (i:Nat)):=by
 have hb:=h.hb;have h1:=h.h1;have h2:=h.h2;have hl:=h.len;intro k;induction k with
 | zero=>
  intro i hk hi;refine Bq dX.pf [] [] wK [] (by kernel_rfl) (show 22<=22 from CC _) (fun v _=>v= .bool true) (fun _=>False) (fun v H h=>h) (fun c h=>h.elim) (n:=300) ?_;rw[qd];exact AZ (GP (by omega)) rfl
 | succ k ih=>
  intro i hk hi;have hin:i < n:=by omega
  refine Bq dX.pf [] [] wK [] (by kernel_rfl) (show 22<=22 from CC _) (fun _ _=>False) (fun c=>c=ux l1 l2 n m ((i+1:Nat):Int)) (fun v H h=>h.elim) (fun c hc=>?_) (n:=300) ?_
  ·rw[hc];exact ih (i+1) (by omega) (by omega)
  ·rw[qd];(conv=>zeta)
   have hw:IntKind.wrap .i64 ((i:Int)+1)=((i+1:Nat):Int):=by rw[wrap64 (by omega) (by omega)];rfl
   rw[hw];simp only[HR,Hq];rw[h.at hin];simp only[ny,ABm,ABW];exact AB (Fp (by omega)) (AB (EI hin) (AB (Gc (by omega)) (AB (EI (by omega)) (AB (Gc (by omega)) (AZ rfl (by first | exact rfl | exact trivial))))))
def xv (args:AL) (objs:BN):GT:=match args,objs with
 | [.slice (some ⟨20,0,some 0⟩) n 18446744073709551616,.slice (some ⟨21,0,some 0⟩) m 18446744073709551616],[.vec [.int .i64,.str,.bool,.int .i64,.int .i64,.int .i64] l1 _,.vec [.int .i64,.str,.bool,.int .i64,.int .i64,.int .i64] l2 _]=> .ask (PR l1 l2 n m) (.ret ⟨.bool true,[],[]⟩)
 | _,_=> .fail
theorem oG:CY Tryz.prog AI A6 (Ai AI 20 [] xv):=by
 refine BF dX.all (by kernel_rfl) (n:=BD A6) (by kernel_rfl) (by kernel_rfl) fun argsc objs x hx hro=>?_
 clear hro;unfold xv at hx;split at hx
 ·rename_i n m l1 r1 l2 r2;simp only[GT.run]at hx;split at hx
  ·rename_i h;cases hx
   refine⟨VC (by kernel_rfl),Ak.mono (AX.Fh (Q:=fun v _=>v= .bool true) ?_) fun v H e=>by subst e;exact Ch rfl⟩;refine Bq dX.pf [] [] wK [] (by kernel_rfl) (show 22<=22 from CC _) (fun _ _=>False) (fun c=>c=ux l1 l2 n m ((0:Nat):Int)) (fun v H h=>h.elim) (fun c hc=>?_) (n:=300) (c:=st A6 [Ao 20 n,Ao 21 m] (hp [.vec Ah l1 true,.vec Ah l2 true])) ?_
   ·rw[hc];exact mn h _ 0 rfl (PM _)
   ·rw[uN];have e:(Int.ofNat n != Int.ofNat m)=false:=by rw[h.len];simp
    exact AZ e rfl
  ·cases hx
 ·cases hx
end Go.AD
namespace Go.AD
inductive Qr (ops:Array Oper) (x:Nat):Nat->Prop where
 | one {o:Oper} {d:Nat} (h:ops[x]? = some o) (hd:d∈Fx o):Qr ops x d
 | more {i:Nat} {o:Oper} {d:Nat} (hi:Qr ops x i) (h:ops[i]? = some o) (hd:d∈Fx o):Qr ops x d
section
variable {X:Ctx} {μ:Ae} {H H':AA} {ops:Array Oper} {t:Tr Value} {n:Nat} {tm:BR} {D idx:AW} {x:Nat} {o:Oper} {rest:List PE} {G:List (Nat × Nat)} {Fact:Nat->Oper->Nat->Prop}
theorem gf (h:FM X μ H ops t n tm D (.op x o::rest) (x::idx) G Fact) {i:Nat} (hd:Qr ops x i):i∉x::idx:=by
 induction hd with
 | one hx hd=>
  obtain⟨⟨o1,h1,h2⟩,_,_⟩:=h.J2;rw[hx]at h1;cases h1
  exact h2 _ hd
 | more _ hi hd ih=>exact(h.V8 _ _ hi ih).2 _ hd
theorem aE:∀{l:AW},Wa ops l->∀i∈l,i < ops.size
 | [],_,_,h=>by cases h
 | j::l,h,i,hi=>by
  obtain⟨⟨o,h1,_⟩,_,h3⟩:=h;rcases List.mem_cons.1 hi with e | e
  ·subst e;exact(Array.getElem?_eq_some_iff.1 h1).1
  ·exact aE h3 i e
theorem bI (h:FM X μ H ops t n tm D (.op x o::rest) (x::idx) G Fact) (hc:∀i,i < ops.size->i≠x->Qr ops x i):idx=[]:=by
 cases idx with
 | nil=>rfl
 | cons j r=>
  obtain⟨_,h2,h3⟩:=h.J2;have hj:j≠x:=fun e=>h2 (by rw[e];exact bB ..)
  exact absurd (ZH _ (bB ..)) (gf h (hc j (aE h3 j (bB ..)) hj))
theorem UH (h:EY X.P ops D (.op x o::rest)=true):x∉D:=by
 unfold EY at h;simp only[DL,fO]at h;intro hx;have:=h.1.1.1;rw[Ef.2 hx]at this;cases this
theorem ni (h:FM X μ H ops t n tm D (.op x o::rest) [x] G Fact) (l:AW):FM X μ H' ops (TF t l) n tm D (.op x o::rest) [x] [] Fact:=by
 refine⟨h.stat,h.wf,h.Uv,h.J2,h.V8,h.ec,h.sz,fun u hu=>?_,fun i o' hi hD hx=>?_,h.eZ,Zk,fun b hb=>(by cases hb)⟩
 ·unfold TF;rcases Jm id t l u with e | e
  ·rw[e];exact .Bv _
  ·rw[e];exact h.tmp u hu
 ·rw[I6]at hx;subst hx;exact absurd hD (UH h.Uv)
def Vv (ops:Array Oper) (x:Nat) (o:Oper):Bool:=(List.range ops.size).all fun i=>Nat.beq i x||OX (Jx ops.toList o) i
theorem Vk (ho:ops[x]? = some o) (h:Vv ops x o=true):∀i,i < ops.size->i≠x->Qr ops x i:=by
 intro i hi hx;have h1:=List.all_eq_true.1 h i (List.mem_range.2 hi);simp only[ia]at h1;rcases h1 with h1 | h1
 ·exact absurd (AG h1) hx
 ·have h2:=Ef.1 h1;unfold Jx at h2;exact Pg (Qr ops x) (fun j oj hj hs d hd=> .more hs (by rw[<-Ut];exact hj) hd) _ _ _ (fun j hj=> .one ho hj) (fun j hj=>by cases hj) i h2
def Qo:List B9->Bool
 | .Ee ops (.op x o::_)::k=>Vv ops x o&&C6 k
 | l=>C6 l
theorem jO {ks:FV} {g:AW} {f:Aj} {f':Frame} (h:Hh X μ H g f f') (hd:Qo f.todo=true):Hh X μ H' [] (Ir ks f) f':=by
 cases h with
 | plain fn t n tm todo todo' ds ds' r kd rd rd' ht hi hdd hr=>
  unfold Ir;simp only;split
  ·exact .plain _ _ _ _ _ _ _ _ _ _ _ _ (OT ht _) hi hdd hr
  ·exact .plain _ _ _ _ _ _ _ _ _ _ _ _ ht hi hdd hr
 | KA fn t n tm ops x o rest idx D G k k' ds ds' kd rd rd' ho hD hk hdd hr=>
  have hd:(Vv ops x o&&C6 k)=true:=hd;rw[DL]at hd;have hn:=bI hD (Vk ho hd.1);subst hn;unfold Ir;simp only;split
  ·exact .KA fn _ n tm ops x o rest [] D [] k k' ds ds' kd rd rd' ho (ni hD _) hk hdd hr
  ·refine .KA fn _ n tm ops x o rest [] D [] k k' ds ds' kd rd rd' ho ⟨hD.stat,hD.wf,hD.Uv,hD.J2,hD.V8,hD.ec,hD.sz,hD.tmp,fun i o' hi hDi hx=>?_,hD.eZ,Zk,fun b hb=>(by cases hb)⟩ hk hdd hr;rw[I6]at hx;subst hx;exact absurd hDi (UH hD.Uv)
theorem bY {ks:FV} {g:AW} {l:List Aj} {l':List Frame} (h:Dv X μ H g l l') (hd:(l.all fun f=>Qo f.todo)=true):Dv X μ H' [] (l.map (Ir ks)) l':=by
 induction h with
 | nil=>exact .nil
 | cons hf _ ih=>
  simp only[bR,DL]at hd;exact .cons (g:=[]) (gs:=[]) (jO hf hd.1) (ih hd.2)
theorem b7 {N:Nat} {ks:FV} {bs:AW} {c:BT} {Φ:Bz} (h1:C6 c.fr.todo=true) (h2:(c.cs.all fun f=>Qo f.todo)=true) (hr:A5 X N (F7 ks bs c) Φ):A5 X N c Φ:=by
 intro base W0 hb hok hplan cs0 μ fr cs W hm;refine hr base W0 hb hok hplan cs0 μ fr cs W ?_;obtain⟨hH,hlaid,g,gs,hfr,hcs,hnd⟩:=hm;exact⟨OD bs hH,hlaid,[],[],SY hfr h1,bY hcs h2,by simp⟩
theorem rO {ρ:Rn} {ν:Ae} (hρ:∀b i T,ρ b=some i->μ b=some T->ν i=some T) (h:FM X μ H ops t n tm D (.op x o::rest) [x] G Fact):FM X ν H' ops (t.Ym (Np ρ)) n tm D (.op x o::rest) [x] [] Fact:=by
 refine⟨h.stat,h.wf,h.Uv,h.J2,h.V8,h.ec,h.sz,fun u hu=>?_,fun i o' hi hD hx=>?_,h.eZ,Zk,fun b hb=>(by cases hb)⟩
 ·have:=h.tmp u hu;unfold look at this ⊢;rw[Tr.Wh];cases hg:t.get u with
  | none=>exact .Bv _
  | some v=>rw[hg]at this;exact It hρ 8 _ _ this
 ·rw[I6]at hx;subst hx;exact absurd hD (UH h.Uv)
def fY (ρ:Rn):Aj->Option Aj
 | ⟨fn,t,n,.Ee ops (.op x o::rest)::k,ds,r,kd,rd⟩=>bif Vv ops x o then(match P0 ρ k,ca ρ ds,lT ρ rd with
  | some k',some ds',some rd'=>some ⟨fn,t.Ym (Np ρ),n,.Ee ops (.op x o::rest)::k',ds',r,kd,rd'⟩
  | _,_,_=>none)else none
 | f=>Qv ρ none f
def To (ρ:Rn):List Aj->Option (List Aj)
 | []=>some []
 | f::r=>match fY ρ f,To ρ r with
  | some g,some l=>some (g::l)
  | _,_=>none
theorem ZE {ρ:Rn} {ν:Ae} (hρ:∀b i T,ρ b=some i->μ b=some T->ν i=some T) {g:AW} {l l1:List Aj} {l':List Frame} (h:To ρ l=some l1) (hr:Dv X μ H g l l'):Dv X ν H' [] l1 l':=by
 induction hr generalizing l1 with
 | nil=>cases h;exact .nil
 | cons hf _ ih=>
  simp only[To]at h;split at h
  ·rename_i f1 m e1 e2;cases h
   refine .cons (g:=[]) (gs:=[]) ?_ (ih e2);cases hf with
   | plain fn t n tm todo todo' ds ds' r kd rd rd' ht hi hd hr=>
    unfold fY at e1;split at e1
    ·rename_i heq;cases heq
     cases hi with
     | cons h1 _=>cases h1
    ·simp only[Qv]at e1;split at e1
     ·rename_i a b c h1 h2 h3;cases e1
      exact .plain _ _ _ _ _ _ _ _ _ _ _ _ (Rx hρ ht) (I5 hρ h1 hi) (JG hρ h2 hd) (KX hρ h3 hr)
     ·cases e1
   | KA fn t n tm ops x o rest idx D G k k' ds ds' kd rd rd' ho hD hk hd hr=>
    simp only[fY]at e1;cases hc:Vv ops x o
    ·simp only[hc,NJ]at e1;cases e1
    ·simp only[hc,Al]at e1;have hn:=bI hD (Vk ho hc);subst hn;split at e1
     ·rename_i a b c h1 h2 h3;cases e1
      exact .KA fn _ n tm ops x o rest [] D [] _ k' _ ds' kd _ rd' ho (rO hρ hD) (I5 hρ h1 hk) (JG hρ h2 hd) (KX hρ h3 hr)
     ·cases e1
  ·cases h
end
def sP (N:Nat) (Av ids:AW) (live:AW) (c:BT):Option BT:=
 match Qv (Fw N ids) (some live) c.fr,To (Fw N ids) c.cs,RB (Fw N ids) c.H.m Av with
 | some fr,some cs,some m=>some ⟨fr,cs,⟨m,N+ids.length⟩⟩
 | _,_,_=>none
section
variable {X:Ctx} {N:Nat}
theorem de {M:Nat} (hMN:M<=N) {Av ids live:AW} {c c':BT} {Φ:Bz} (hl:(X.laid.all fun p=>Nat.blt p.1 N)=true) (h:sP N Av ids live c=some c') (hr:A5 X M c' Φ):A5 X M c Φ:=by
 intro base W0 hb hok hplan cs0 μ fr cs W hm;suffices hs:∃μ',JL X base W0 μ' c' fr cs W by
  obtain⟨μ',hm'⟩:=hs;exact hr base W0 hb hok hplan cs0 μ' fr cs W hm'
 obtain⟨hH,hlaid,g,gs,hfr,hcs,hnd⟩:=hm;unfold sP at h;split at h
 ·rename_i fr1 cs1 m1 e1 e2 e3;cases h
  let ν:Ae:=fun i=>(DF N ids i).bind μ
  have hν:∀b i T,Fw N ids b=some i->μ b=some T->ν i=some T:=by
   intro b i T h1 h2;show(DF N ids i).bind μ=_;rw[Fi h1];exact h2
  have hν':∀b i T,Fw N ids b=some i->ν i=some T->μ b=some T:=by
   intro b i T h1 h2;have h2:(DF N ids i).bind μ=some T:=h2;rw[Fi h1]at h2;exact h2
  have hlow:∀i,i < N->ν i=μ i:=by
   intro i hi;show(DF N ids i).bind μ=_;unfold DF;rw[HI hi];rfl
  refine⟨ν,⟨?_,?_,?_,?_,?_,hH.size,hH.below,hH.out,hH.os,?_,?_,hH.grow⟩,?_,[],[],?_,ZE hν e2 hcs,by simp⟩
  ·intro i o1 hi T hT;obtain⟨b,o,r1,r2,r3⟩:=B6 e3 i o1 hi;obtain⟨o',q1,q2⟩:=hH.obj b o r2 T (hν' _ _ _ r1 hT);exact⟨o',q1,Z9 hν r3 q2⟩
  ·intro i o1 hi hro T hT hv;obtain⟨b,o,r1,r2,r3⟩:=B6 e3 i o1 hi;exact hH.own b o r2 (by rw[<-(HN r3).1];exact hro) T (hν' _ _ _ r1 hT) (fun hw=>hv ((G3 r3 T).2 hw))
  ·intro i1 i2 o1 o2 h1 h2 T1 T2 t1 t2 v1 v2 hcc hrr;obtain⟨b1,p1,r1,r2,r3⟩:=B6 e3 i1 o1 h1;obtain⟨b2,p2,s1,s2,s3⟩:=B6 e3 i2 o2 h2;have:=hH.inj b1 b2 p1 p2 r2 s2 T1 T2 (hν' _ _ _ r1 t1) (hν' _ _ _ s1 t2) (fun hw=>v1 ((G3 r3 T1).2 hw)) (fun hw=>v2 ((G3 s3 T2).2 hw)) hcc (by rw[<-(HN r3).1,<-(HN s3).1];exact hrr);subst this;rw[r1]at s1;cases s1;rfl
  ·intro i hi;have hi:N+ids.length<=i:=hi;have hnone:DF N ids i=none:=by
    unfold DF;rw[E7 (by omega),NC (by omega)]
   constructor
   ·cases hg:(AA.mk m1 (N+ids.length)).get i with
    | none=>rfl
    | some o1=>
     obtain⟨b,o,r1,_⟩:=B6 e3 i o1 hg;rw[Fi r1]at hnone;cases hnone
   ·show(DF N ids i).bind μ=none;rw[hnone];rfl
  ·intro i T hT;have hT:(DF N ids i).bind μ=some T:=hT;cases hbk:DF N ids i with
   | none=>rw[hbk]at hT;cases hT
   | some b=>rw[hbk]at hT;exact hH.bound b T hT
  ·obtain⟨φ,q⟩:=hH.abs;refine⟨fun i=>match DF N ids i with | some b=>φ b | none=>fun _=>False,?_,?_⟩
   ·intro i a ro T hi hT;obtain⟨b,o,r1,r2,r3⟩:=B6 e3 i _ hi;obtain⟨this,hext⟩:=(HN r3).2.2 a ro rfl;subst this;simp only[Fi r1];obtain⟨w1,w2⟩:=q.rep b a ro T r2 (hν' _ _ _ r1 hT);exact⟨w1.closed _ hext,w2⟩
   ·intro i a ro T hi hT i2 o2 T2 hi2 hT2 hne;obtain⟨b,o,r1,r2,r3⟩:=B6 e3 i _ hi;obtain⟨this,hext⟩:=(HN r3).2.2 a ro rfl;subst this;obtain⟨b2,p2,s1,s2,s3⟩:=B6 e3 i2 _ hi2;simp only[Fi r1,Fi s1];obtain⟨u1,u2⟩:=q.DG b a ro T r2 (hν' _ _ _ r1 hT) b2 p2 T2 s2 (hν' _ _ _ s1 hT2) (by rintro rfl;rw[r1]at s1;cases s1;exact hne rfl);exact⟨fun hv2=>u1 (fun hw=>hv2 ((G3 s3 T2).2 hw)),fun ea=>u2 (by rw[<-(HN s3).2.1];exact ea)⟩
  ·intro b T hT;rw[hlow b (cZ (hb b T hT) hMN)];exact hH.le b T hT
  ·intro gl hgl;obtain⟨T,h1,h2⟩:=hlaid gl hgl;have:gl < N:=by
    rw[ABk]at hgl;obtain⟨p,hp,hpe⟩:=hgl;have h3:=List.all_eq_true.1 hl p hp;rw[AG hpe];exact VC h3
   exact⟨T,by rw[hlow gl this];exact h1,h2⟩
  ·generalize c.fr=cf at e1 hfr;cases hfr with
   | plain fn t n tm todo todo' ds ds' r kd rd rd' ht hi hd hrr=>
    simp only[Qv]at e1;split at e1
    ·rename_i a b c h1 h2 h3;cases e1
     exact .plain _ _ _ _ _ _ _ _ _ _ _ _ (S6 hν ht live) (I5 hν h1 hi) (JG hν h2 hd) (KX hν h3 hrr)
    ·cases e1
   | drawn fn t n tm ops BJ idx D G k k' ds ds' kd rd rd' hD hk hd hrr=>
    simp only[Qv]at e1;split at e1
    ·rename_i a b c h1 h2 h3;exact absurd rfl (KK h1 _ _ _)
    ·cases e1
 ·cases h
end
def Stop.dL (X:Ctx) (ks:FV) (S:Stop) (c:BT):Option BT:=
 match FD X c with
 | some c1=>bif C6 c1.fr.todo&&(c1.cs.all fun f=>Qo f.todo)then
  (bif Nat.ble S.N (F7 ks (S.ids c1) c1).H.next&&(S.ids (F7 ks (S.ids c1) c1)).all (fun b=>Nat.blt b (F7 ks (S.ids c1) c1).H.next)then
   sP S.N (S.Xi++S.ids (F7 ks (S.ids c1) c1)) (S.ids (F7 ks (S.ids c1) c1)) S.live (F7 ks (S.ids c1) c1)else none)else none
 | none=>none
theorem V3 {X:Ctx} {S:Stop} {ks:FV} {M:Nat} (hM:M<=S.N) (hl:(X.laid.all fun p=>Nat.blt p.1 S.N)=true) {c c2:BT} {Φ:Bz} (hc:S.dL X ks c=some c2) (h:A5 X M c2 Φ):A5 X M c Φ:=by
 unfold Stop.dL at hc;split at hc
 ·rename_i c1 h1;cases hd:(C6 c1.fr.todo&&(c1.cs.all fun f=>Qo f.todo))
  ·simp only[hd,NJ]at hc;cases hc
  ·simp only[hd,Al]at hc;simp only[DL]at hd;cases hb:(Nat.ble S.N (F7 ks (S.ids c1) c1).H.next&&(S.ids (F7 ks (S.ids c1) c1)).all (fun b=>Nat.blt b (F7 ks (S.ids c1) c1).H.next))
   ·simp only[hb,NJ]at hc;cases hc
   ·simp only[hb,Al]at hc;have hr:=de (X:=X) hM hl hc h;exact A5.bind (Reach.Uf ((R6.step h1).reach (Φ:=fun c'=>c'=c1) rfl)) fun c' e=>e ▸ b7 hd.1 hd.2 hr
 ·cases hc
def pW (X:Ctx) (pf:Pf) (hs:List (Nat × Value)) (f:FuncId) (ids:AW) (S:Stop) (h1:BT->Bool) (S2:Stop) (h2:BT->Bool) (ks:FV) (Q:Bm) (R R2:Bz) (n:Nat):Bz:=
 Nat.rec (motive:=fun _=>Bz) (fun _=>False) (fun _ ih c=>match FC X f c with
  | some (v,H)=>Q v ((ids++Au 4 v).map H.get)
  | none=>bif h1 c then(match S.dL X ks c with
   | some c2=>R c2
   | none=>False)
   else bif h2 c then(match S2.dL X ks c with
    | some c2=>R2 c2
    | none=>False)
   else match VL X c with
    | some (b,ct,cf)=>bif b then ih cf else(ih ct/\ih cf)
    | none=>Oe X pf hs c ih) n
theorem tQ {X:Ctx} {pf:Pf} (hpf:HO X pf) {hs:List (Nat × Value)} {f:FuncId} {ids:AW} {M:Nat} {S S2:Stop} {h1 h2:BT->Bool} {ks:FV} (hl:(X.laid.all fun p=>Nat.blt p.1 M)=true) (hN:M<=S.N) (hN2:M<=S2.N) {Q:Bm} {R R2:Bz} {Q':Ih}
 (hQ:∀v H,Q v ((ids++Au 4 v).map H.get)->Q' v H) (hR:∀c,R c->AX X M f Q' c) (hR2:∀c,R2 c->AX X M f Q' c):∀(n:Nat) (c:BT),pW X pf hs f ids S h1 S2 h2 ks Q R R2 n c->AX X M f Q' c:=by
 have up:∀N,M<=N->(X.laid.all fun p=>Nat.blt p.1 N)=true:=fun N hMN=>by
  rw[qU]at hl ⊢;intro p hp;exact B0 (jP (VC (hl p hp)) hMN)
 intro n;induction n with
 | zero=>intro c h;cases h
 | succ n ih=>
  intro c h;have h:(match FC X f c with
   | some (v,H)=>Q v ((ids++Au 4 v).map H.get)
   | none=>bif h1 c then(match S.dL X ks c with
    | some c2=>R c2
    | none=>False)
    else bif h2 c then(match S2.dL X ks c with
     | some c2=>R2 c2
     | none=>False)
    else match VL X c with
     | some (b0,ct,cf)=>bif b0 then pW X pf hs f ids S h1 S2 h2 ks Q R R2 n cf else(pW X pf hs f ids S h1 S2 h2 ks Q R R2 n ct/\pW X pf hs f ids S h1 S2 h2 ks Q R R2 n cf)
     | none=>Oe X pf hs c (pW X pf hs f ids S h1 S2 h2 ks Q R R2 n)):=h
  split at h
  ·rename_i v H e;exact A5.here ⟨v,H,e,hQ v H h⟩
  ·cases hs:h1 c
   ·simp only[hs,NJ]at h;cases hs2:h2 c
    ·simp only[hs2,NJ]at h;split at h
     ·rename_i b0 ct cf hq;cases hb:b0
      ·simp only[hb,NJ]at h;exact A5.bind (Reach.Uf (GZ (Φ:=fun c'=>pW X pf _ f ids S h1 S2 h2 ks Q R R2 n c') hq (fun _=>h.1) h.2)) fun c' hc=>ih c' hc
      ·simp only[hb,Al]at h;exact A5.bind (Reach.Uf (GZ (Φ:=fun c'=>pW X pf _ f ids S h1 S2 h2 ks Q R R2 n c') hq (fun e=>by rw[hb]at e;cases e) h)) fun c' hc=>ih c' hc
     ·exact A5.bind (Reach.Uf (KD hpf (KS h))) fun c' hc=>ih c' hc
    ·simp only[hs2,Al]at h;split at h
     ·rename_i c2 hc;exact V3 (X:=X) (S:=S2) hN2 (up _ hN2) hc (hR2 c2 h)
     ·cases h
   ·simp only[hs,Al]at h;split at h
    ·rename_i c2 hc;exact V3 (X:=X) (S:=S) hN (up _ hN) hc (hR c2 h)
    ·cases h
end Go.AD
namespace Go.AD
open Go.Proofs
def yJ:List GA:=[(BZ,Rq,Vx)]
theorem we:Ci yJ:= .other Qy R4 .nil
abbrev uK:Ctx:=Bp Tryz.prog AI (Cv yJ)
def eU:Stop:=⟨Az,2,2,27,[20,21,22,23,24,25,26],[0,5,6,7]⟩
def wW:Stop:=⟨AN,0,3,27,[20,21,22,23,24,25,26],[0,1,5]⟩
def yu:FV:=[(DV,[]),(AN,[5])]
def xS (ns nk:Nat) (row:List (EK.C [.tok])) (krow:Cq) (LS LK:FZ) (ls:Aw) (s:Int) (o:Value):BT:=
 ⟨⟨AN,EZ [(0,At 20),(1,int s),(5,At 27)],BD AN,[.code (A9 Tryz.prog AN [1,1,0,0]),.code (A9 Tryz.prog AN [1,1,0,1]),.code (A9 Tryz.prog AN [1,1,1])],[],false,.normal,none⟩,[],(hp (Rh ns nk row krow LS LK ls)).alloc (.cells [o] 0 false)⟩
def v7:Tr Value:=EZ [(5,At 29)]
def vA (ns nk:Nat) (row:List (EK.C [.tok])) (krow:Cq) (LS LK:FZ) (ls lo:Aw) (k m:Nat) (i:Int):BT:=
 ⟨⟨Az,EZ [(0,.func (.yield 28) ⟨[]⟩ ⟨[]⟩),(5,Ao 26 m),(6,int m),(7,int i)],BD Az,[.code (A9 Tryz.prog Az [1,0,0]),.inLoop (A9 Tryz.prog Az [1,0,0]),.inBlock 0],[],false,.normal,none⟩,
  [⟨DV,EZ [],BD DV,[Yn Tryz.prog (A9 Tryz.prog DV [1,0]) 10],[],false,.normal,none⟩,
   ⟨AN,v7,BD AN,[.inRangeFunc 28,.inBlock 0,.code (A9 Tryz.prog AN [1,1,1])],[⟨.collected 27,⟨[]⟩⟩],false,.normal,none⟩],
  ((((hp (Rh ns nk row krow LS LK ls)).alloc (.deferred (some []))).alloc (.loop ⟨.ready,none,AN,v7,BD AN,#[10],A9 Tryz.prog AN [1,1,0,1,0,0],A9 Tryz.prog AN [1,1,0,1,0,1],27⟩)).alloc (.cells [Ao 30 k] 0 false)).alloc (.vec Ah lo false)⟩
def dt (ids:AW) (l:List (EK.C [.tok])):List (EK.C [.tok]):=List.map (Np (Fw 27 ids)) l
def dO (ids:AW) (l:Cq):Cq:=YJ (Fw 27 ids) l
def mT (S:Stop) (h1:BT->Bool) (m:Nat) (Q:Bm) (R:Bz) (c:BT):Prop:=pW uK (Ax yJ) [(22,Ao 26 m)] AN [20,21,22,23,24,25,26] S h1 S (fun _=>false) yu Q R (fun _=>False) 900 c
def xN (ns nk:Nat) (row:List (EK.C [.tok])) (krow:Cq) (LS LK:FZ) (ls:Aw) (s:Int):BT:=⟨(xS ns nk row krow LS LK ls s (Ao 28 0)).fr,[],(xS ns nk row krow LS LK ls s (Ao 28 0)).H.alloc (.vec Ah [] false)⟩
theorem sF (ns nk:Nat) (row:List (EK.C [.tok])) (krow:Cq) (LS LK:FZ) (ls:Aw) (s m:Nat) (Q:Bm) (R:Bz):mT wW (fun c=>Il AN 2 c) m Q R (st AN [At 20,int s] (hp (Rh ns nk row krow LS LK ls)))=(
 (R (xS ns nk (dt [27] row) (dO [27] krow) LS LK ls (s:Int) (Value.slice none 0 0)))):=by kernel_rfl
theorem uA (ns nk:Nat) (row:List (EK.C [.tok])) (krow:Cq) (LS LK:FZ) (ls:Aw) (s m:Nat) (Q:Bm) (R:Bz):mT eU (fun c=>eU.here c) m Q R (xN ns nk row krow LS LK ls s)=(
 let a:Value:= .func (Fn.yield 32) ⟨[]⟩ ⟨[]⟩;(0 < ns)/\(bif decide ((s:Int) < Int.ofNat ns)then(bif decide (0<=(s:Int))&&Nat.blt (s:Int).toNat ns then(bif Nat.blt (0+(s:Int).toNat) row.length then(IZ (SK.enc SK.tok (List.getD row (0+(s:Int).toNat) (EK.BL [SK.tok]))) (Prod.snd (22,Ao 26 m)))/\((a:Value)=a)/\(R (vA ns nk (dt [31,32,27,28] row) (dO [31,32,27,28] krow) LS LK ls ([]:Aw) 0 m 0))else False)else False)else(Q (Ao 28 0) [some (.cells [(At 21),(Ao 22 ns)] 0 false),some (.cells [(.bool true),(Ao 23 nk)] 0 false),some (.vec [SK.tok] row false),some (.vec EV krow false),some (.abs (Ct.mem Ah LS) false),some (.abs (Ct.mem Ah LK) false),some (.vec Ah ls false),some (.vec Ah [] false)]))):=by kernel_rfl
theorem lJ (ns nk:Nat) (row:List (EK.C [.tok])) (krow:Cq) (LS LK:FZ) (ls lo:Aw) (k m:Nat) (i:Int) (Q:Bm) (R:Bz):mT eU (fun c=>eU.here c) m Q R (vA ns nk row krow LS LK ls lo k m i)=(
 let b:=List.getD ls (0+i.toNat) (EK.BL Ah);let a:Prop:=Q (Ao 30 k) [some (.cells [(At 21),(Ao 22 ns)] 0 false),some (.cells [(.bool true),(Ao 23 nk)] 0 false),some (.vec [SK.tok] row false),some (.vec EV krow false),some (.abs (Ct.mem Ah LS) false),some (.abs (Ct.mem Ah LK) false),some (.vec Ah ls false),some (.vec Ah lo false)];(bif decide (i < (m:Int))then(bif decide (0<=i)&&Nat.blt i.toNat m then(bif Nat.blt (0+i.toNat) ls.length then(bif Int.ofNat k==100 then a else(bif true&&Nat.ble (0+k) lo.length&&BQ 56 (k+1)then(R (vA ns nk (dt [27,28,29,34] row) (dO [27,28,29,34] krow) LS LK ls (List.take k (List.drop 0 lo)++[(b.1,b.2.1,b.2.2.1,b.2.2.2.1,b.2.2.2.2.1,b.2.2.2.2.2)]) (k+1) m (IntKind.wrap .i64 (i+1))))else False))else False)else False)else a)):=by kernel_rfl
section
variable {ns nk:Nat} {row:List (EK.C [.tok])} {krow:Cq} {LS LK:FZ} {ls:Aw}
def iL (ns nk:Nat) (row:List (EK.C [.tok])) (krow:Cq) (LS LK:FZ) (ls:Aw) (v:Value) (H:AA):Prop:=v=Ao 30 (ls.take 100).length/\[20,21,22,23,24,25,26,30].map H.get=(Rh ns nk row krow LS LK ls++[AP.vec Ah (ls.take 100) false]).map some
theorem V1 {S:Stop} {h1:BT->Bool} {m:Nat} {Q:Bm} {R:Bz} {Q':Ih} {c:BT} (hS:27<=S.N) (hQ:∀v H,Q v (([20,21,22,23,24,25,26]++Au 4 v).map H.get)->Q' v H) (hR:∀c,R c->AX uK 27 AN Q' c) (h:mT S h1 m Q R c):AX uK 27 AN Q' c:=
 tQ we.pf (M:=27) (by kernel_rfl) hS hS hQ hR (fun c h=>h.elim) 900 c h
structure qR (ns:Nat) (row:List (EK.C [.tok])) (krow:Cq) (ls:Aw) (s:Nat):Prop where
 tC:∀v∈row,eX 27 v
 qC:∀p∈krow,eX 27 p.2
 hs:s < ns
 Pr:ns=row.length
 Jl:row.getD s (EK.BL [.tok])=Ao 26 ls.length
 SP:ls.length < 80000
 hm:ns < 80000
theorem lI {n:Nat} {H:AA} {v:Value} {l:LR} (hv:v=Ao 30 n) (h:([20,21,22,23,24,25,26]++Au 4 v).map H.get=l):[20,21,22,23,24,25,26,30].map H.get=l:=by
 subst hv;exact h
theorem o8 {s:Nat} (h:qR ns row krow ls s):∀(n i:Nat),ls.length - i=n->i<=ls.length->i<=100->AX uK 27 AN (iL ns nk row krow LS LK ls) (vA ns nk row krow LS LK ls (ls.take i) i ls.length i):=by
 have SP:=h.SP;intro n;induction n with
 | zero=>
  intro i hn hi h100;have e:i=ls.length:=by omega
  refine V1 (S:=eU) (h1:=fun c=>eU.here c) (m:=ls.length) (by decide) (Q:=fun v os=>v=Ao 30 i/\os=(Rh ns nk row krow LS LK ls++[AP.vec Ah (ls.take i) false]).map some) (R:=fun _=>False) (fun v H hq=>?_) (fun c h=>h.elim) ?_
  ·obtain⟨hv,hos⟩:=hq;have e2:ls.take 100=ls.take i:=by rw[Pb (by omega),Pb (by omega)]
   have e3:i=(ls.take 100).length:=by rw[e2,IP];omega
   exact⟨by rw[<-e3];exact hv,by rw[e2];exact lI hv hos⟩
  ·rw[lJ];exact AZ (GP (by omega)) ⟨rfl,rfl⟩
 | succ n ih=>
  intro i hn hi h100;have hlt:i < ls.length:=by omega
  by_cases hc:i=100
  ·refine V1 (S:=eU) (h1:=fun c=>eU.here c) (m:=ls.length) (by decide) (Q:=fun v os=>v=Ao 30 i/\os=(Rh ns nk row krow LS LK ls++[AP.vec Ah (ls.take i) false]).map some) (R:=fun _=>False) (fun v H hq=>?_) (fun c h=>h.elim) ?_
   ·obtain⟨hv,hos⟩:=hq;subst hc;have e3:100=(ls.take 100).length:=by rw[IP];omega
    exact⟨by rw[<-e3];exact hv,lI hv hos⟩
   ·rw[lJ];(conv=>zeta)
    simp only[HR,Hq];exact AB (Fp (by omega)) (AB (EI hlt) (AB (Gc hlt) (AB (by subst hc;rfl) ⟨by first | rfl | trivial,rfl⟩)))
  ·refine V1 (S:=eU) (h1:=fun c=>eU.here c) (m:=ls.length) (by decide) (Q:=fun _ _=>False) (R:=fun c=>c=vA ns nk row krow LS LK ls (ls.take (i+1)) (i+1) ls.length ((i+1:Nat):Int)) (fun v H hq=>hq.elim) (fun c hc=>?_) ?_
   ·rw[hc];exact ih (i+1) (by omega) (by omega) (by omega)
   ·rw[lJ];(conv=>zeta)
    have hw:IntKind.wrap .i64 ((i:Int)+1)=((i+1:Nat):Int):=by rw[wrap64 (by omega) (by omega)];rfl
    rw[hw];have e1:dt [27,28,29,34] row=row:=I4 _ row h.tC;have e2:dO [27,28,29,34] krow=krow:=Mp _ krow h.qC;rw[e1,e2];simp only[HR,Hq,O9];have hl:(ls.take i).length=i:=by rw[IP];omega
    have e3:List.take i (ls.take i)=ls.take i:=Pb (by omega);have e4:ls.take (i+1)=ls.take i++[DI ls i]:=by
     rw[vR hlt]
     congr 2
     unfold DI;rw[F5,FL hlt];rfl
    have hb:(true&&Nat.ble i (ls.take i).length&&BQ 56 (i+1))=true:=by
     rw[hl,B0 (CC _),Lu (by omega)];rfl
    rw[e3,e4];exact AB (Fp (by omega)) (AB (EI hlt) (AB (Gc hlt) (AZ (fH.2 (by show ¬(i:Int)=100;omega)) (AB hb rfl))))
theorem rh {s:Nat} (h:qR ns row krow ls s):AX uK 27 AN (iL ns nk row krow LS LK ls) (st AN [At 20,int s] (hp (Rh ns nk row krow LS LK ls))):=by
 have hs:=h.hs;have hm:=h.hm;refine V1 (m:=0) (S:=wW) (h1:=fun c=>Il AN 2 c) (by decide) (Q:=fun _ _=>False) (R:=fun c=>c=xS ns nk row krow LS LK ls s (.slice none 0 0)) (fun v H hq=>hq.elim) (fun c hc=>?_) ?_
 ·rw[hc];have e1:dt [31,32,27,28] row=row:=I4 _ row h.tC;have e2:dO [31,32,27,28] krow=krow:=Mp _ krow h.qC;refine A5.Gh 27 5 Ah [] [] (e:=0) (ro:=false) (b':=27) (o:=0) (s:=none) (by kernel_rfl) (by kernel_rfl) (by kernel_rfl) (by kernel_rfl) (by decide) ?_;have hT:AX uK 27 AN (iL ns nk row krow LS LK ls) (xN ns nk row krow LS LK ls s):=by
   refine V1 (m:=ls.length) (S:=eU) (h1:=fun c=>eU.here c) (by decide) (Q:=fun _ _=>False) (R:=fun c=>c=vA ns nk row krow LS LK ls [] 0 ls.length ((0:Nat):Int)) (fun v H hq=>hq.elim) (fun c hc=>?_) ?_
   ·rw[hc];exact o8 h _ 0 rfl (PM _) (PM _)
   ·rw[uA];(conv=>zeta);rw[e1,e2]
    simp only[HR,Hq];exact⟨by omega,AB (Fp (by show(s:Int) < (ns:Int);omega)) (AB (EI hs) (AB (Gc (by rw[<-h.Pr];exact hs)) ⟨⟨h.Jl⟩,by first | rfl | trivial,rfl⟩))⟩
  refine cast ?_ hT;kernel_rfl
 ·rw[sF];have e1:dt [27] row=row:=I4 _ row h.tC;have e2:dO [27] krow=krow:=Mp _ krow h.qC;rw[e1,e2]
end
structure V4 (x:Cm) (s:Nat):Prop where
 hs:s < x.AR.length
 hm:x.AR.length < 80000
 SP:(C7 x s).length < 80000
def Ux (x:Cm) (s:Int):Aw:=(C7 x s.toNat).take 100
def yA:Gk:=fun p rest os=>match p,rest,os with
 | .idx x,[.int .i64 s],[]=> .ask (s=(s.toNat:Int)/\V4 x s.toNat) (.ret ⟨Ao 21 (Ux x s).length,.idx x,[.vec Ah (Ux x s) false]⟩)
 | _,_,_=> .fail
theorem uX {x:Cm} {s:Nat} (h:V4 x s):Ak uK 26 (fun b=>20<=b/\b < 26) AN (fun v H=>v=Ao 30 (Ux x s).length/\H.get 20=some (.abs (.pack (.idx x)) false)/\H.get 30=some (.vec Ah (Ux x s) false)) (st AN [At 20,int s] (hp (Vi x))):=by
 have hs:=h.hs;have hrun:=rh (ns:=x.AR.length) (nk:=x.keys.length) (row:=rowP x.AR s (C7 x s).length) (krow:=Df 25 x.keys) (LS:=Ip x.AR s) (LK:=DY x.keys) (ls:=C7 x s) (s:=s) ⟨RJ (by decide),Q1 (by decide),hs,by unfold rowP;rw[Ly,DS],Dp (by rw[DS];exact hs),h.SP,h.hm⟩;refine Ak.Ug (N2:=27) (D2:=fun b=>20<=b/\b < 27) (AX.iW hrun ?_) (fun base W0 μ W hD hH=>RS (Jc hs) hH fun z hz=>hD z hz) (VC (by kernel_rfl));intro v H base W0 W μ hQ hD hH;obtain⟨rfl,hos⟩:=hQ;unfold Rh at hos;simp only[X5,iR,JB,dM,kE,Yz]at hos;obtain⟨g20,g21,g22,g23,g24,g25,g26,g30⟩:=hos;have h30:=hH.lt g30;obtain⟨μ2,H2,r1,r2,r3,r4⟩:=U5 hH (x:=x) (s:=s) (w1:=26) (l1:=C7 x s) (fun z hz=>hD z (by simp at hz;omega)) hs g26 (hD 26 (by omega)) (by decide) g20 g21 g22 g23 g24 g25;refine⟨_,H2,⟨rfl,?_,?_⟩,fun v' hv=>⟨μ2,r1,r2,hv.mono r1⟩⟩
 ·rw[r3,KU (Jc hs)]
 ·rw[r4 30 (by decide) (by decide) (by omega)];exact g30
theorem sn:CY Tryz.prog AI AN (Ai AI 20 [true] (CX 20 yA)):=by
 refine aP we.all (by kernel_rfl) (by kernel_rfl) (n:=BD AN) (by kernel_rfl) (fun _=>rfl) fun s rest os=>?_
 unfold yA;split
 ·rename_i x s;rintro⟨hs,hok⟩;refine⟨VC (by kernel_rfl),fun objs hr=>?_⟩;obtain⟨hl,hO⟩:=ai x objs hr;refine⟨_,26,hO,VC (by kernel_rfl),?_⟩;have h:=uX hok;rw[<-hs]at h;refine Ak.sub (Ak.mono h ?_) fun b hb=>?_
  ·rintro v H ⟨rfl,g20,g30⟩;refine⟨[30],by decide,fun b hb=>(by rw[I6]at hb;rw[hb];decide),rfl,rfl,fun j b o hj ho=>?_,fun j o hj hm ho=>?_⟩
   ·match j,hj,ho with
    | 0,hj,ho=>cases hj;cases ho;exact⟨_,rfl,g30⟩
    | j+1,hj,_=>cases hj
   ·have hj:j=0:=by have hj:j < 0+1:=hj;omega
    subst hj;cases ho
    exact⟨_,rfl,g20⟩
  ·rw[hl];refine⟨b - 20,by omega,?_⟩;show b=if b - 20=0 then 20 else 20+(0+1)+(b - 20 - 1)
   split<;>omega
 ·exact trivial
theorem tq {base:Env} {W0 W:World} {μ:Ae} {H:AA} (h:AJ base W0 μ H W) {b n c:Nat} {k:EK} {l:List (EK.C k)} {ro:Bool} (hb:H.get b=some (.cells (Ag k l) k.length ro)) (h1:n<=c) (h2:c<=l.length) (h3:1<=c) (h4:c<=1000) (hk:k.length≠0) {x':Value} (hx:AH μ (.slice (some ⟨b,0,none⟩) n c) x'):AH μ (.slice (some ⟨b,0,some 0⟩) n Aa) x':=by
 cases hx with
 | slice _ _ _ _ cap' o' T hm hc ho=>
  obtain⟨o2,ho2,hr⟩:=h.obj b _ hb T hm;cases hr with
  | cells _ _ _ _ _ _ _ he hcl hsz hf=>
   rename_i arr t3 lo3 hi3;have hsa:arr.toList.length=arr.size:=VR;have hlen:=hcl.length;rw[IP,MQ,BH,hsa]at hlen;have e:cap'=c:=by
    rcases hc with⟨_,e⟩ | ⟨e,_⟩
    ·exact e
    ·unfold Aa at e;omega
   subst e;have hTr:T.r≠0:=by
    intro h0;have:0 < l.length * k.length:=ABn (by omega) (by omega);omega
   have hmul:cap' * T.e<=l.length * k.length:=by rw[<-he];exact Ye _ h2
   refine .Bk b 0 n Aa cap' o' T hm (.inr ⟨CC _,by omega,h1,by omega,.inr (by omega)⟩) (by rw[ki];exact ho) hTr
structure IQ where
 b:Nat
 n:Nat
 c:Nat
 g:Value->AL
structure jG (get:AL->Option IQ):Prop where
 at_:∀{args w},get args=some w->args=w.g (.slice (some ⟨w.b,0,none⟩) w.n w.c)
 rel:∀{args w},get args=some w->∀{μ:Ae} {v v2:Value} {l:AL},(∀x,AH μ v x->AH μ v2 x)->Am μ (w.g v) l->Am μ (w.g v2) l
 bN:∀{args w},get args=some w->∀{μ:Ae} {l:AL},Am μ args l->∃x,AH μ (.slice (some ⟨w.b,0,none⟩) w.n w.c) x
def PT.hint (w:Value):PT->PT
 | .fail=> .fail
 | .ret x=> .ask (x.v=w) (.ret ⟨w,x.nx,x.news⟩)
 | .test c a b=> .test c (a.hint w) (b.hint w)
 | .ask p a=> .ask p (a.hint w)
def Zv (w:Value) (q:Gk):Gk:=fun p rest os=>(q p rest os).hint w
theorem NS {w:Value}:∀{t:PT} {x:Vm},(t.hint w).gt.run=some x->t.gt.run=some x
 | .fail,_,h=>h
 | .ret y,x,h=>by
  simp only[PT.hint,PT.gt,GT.run]at h ⊢;split at h
  ·rename_i e;rw[e];exact h
  ·cases h
 | .test c a b,x,h=>by
  cases c
  ·exact NS (t:=b) h
  ·exact NS (t:=a) h
 | .ask p a,x,h=>by
  simp only[PT.hint,PT.gt,GT.run]at h ⊢;split at h
  ·rename_i hp;rw[HI hp];exact NS (t:=a) h
  ·cases h
theorem M0 (w:Value) (q:Gk):∀a o x,(CX 20 (Zv w q) a o).run=some x->(CX 20 q a o).run=some x:=IU fun _ _ _ _ hx=>NS hx
def ON (f:FuncId) (w:Value) (q:Gk):GA:=(f,Ai AI 20 [true] (CX 20 q),Cs AI 20 [true] (CX 20 (Zv w q)))
def TN:AL->Option IQ
 | [d,i,.slice (some ⟨b,0,none⟩) n c]=>some ⟨b,n,c,fun v=>[d,i,v]⟩
 | _=>none
def uw:DO:=fun args H=>match args with
 | []=>some (.bool true,H)
 | _=>none
def yQ:HL:=fun args H K=>match args with
 | []=>K (.bool true) H
 | _=>False
def yY:Gk:=FT (fun _=>int 0) fun d=>⟨d.BB,d.BJ,d.AR,d.ops,false⟩
def wO (l:List B2) (m:Nat):PF:=Eo l (Mc m) 0 Oo
def Jo (_:BT):Bool:=false
theorem KE {G G2:AL->BN->GT} {m:List Bool} (h:∀a o x,(G2 a o).run=some x->(G a o).run=some x):Xf (Ai AI 20 m G) (Cs AI 20 m G2):=fun X g hX args H K hk=>by
 have hctx:(⟨X.P,X.laid,fun _=>some (Ai AI 20 m G2),X.BJ⟩:Ctx).IN g=some (Ai AI 20 m G2):=rfl;obtain⟨v,H',h1,h2⟩:=Gq hctx hk;refine⟨v,H',?_,h2⟩;unfold CP at h1 ⊢;simp only[hX]at h1 ⊢;exact LL h h1
theorem tL:Xf uw yQ:=fun X g hX args H K hk=>by
 unfold yQ at hk;split at hk
 ·refine⟨_,H,?_,hk⟩;unfold CP;simp only[hX];rfl
 ·exact hk.elim
variable (hW:CY Tryz.prog AI Dj uw)
include hW in
def lU (m:AS):Int:=IntKind.wrap .i64 ((m.b.length:Int) - m.Ej)
structure WZ (d:Ab):Prop where
 yF:∀i:Nat,i < 7->Lb d i lU=0/\Lp d i=0
 sy:Rj d
 e:(HU d (Bo d)).1=0
 ops:(HU d (Bo d)).2.ops=d.ops
section
variable {l:List B2} {L:Nat->Aw} {u:Nat->Int} {k:Int}
include hW in
structure ju (d:Ab) (L:Nat->Aw) (s:Int):Prop where
 sc:N9 d
 lo:0<=s
 hi:s < 7
 es:s < 5->V4 (EG d) s.toNat/\PR (Ux (EG d) s) (L s.toNat) (Ux (EG d) s).length (L s.toNat).length
include hW in
structure ij (d:Ab):Prop where
 dn:d.down=false
 bad:∀i:Nat,i < 7->Ba d.BB i=false
 sc:N9 d
 rd:kR d
end
end Go.AD
namespace Go.AD
section
variable {X:Ctx} {base:Env} {W0:World} {μ:Ae} {H:AA} {W:World}
theorem AJ.AAj (hW:Eb X base W0) (hl:Bj X μ) (h:AJ base W0 μ H W) {g:Nat} {cs:AL} (hg:(g,cs)∈X.laid) (hro:∀b a ro,H.get b=some (.abs a ro)->ro=false):AJ base W0 μ (H.put g (.cells cs 0 true)) W:=by
 obtain⟨T,h1,h2,h3,h4,h5⟩:=hl g (List.any_eq_true.2 ⟨_,hg,by simp⟩);have h5:=h5 cs hg;obtain⟨hK,a,t,fz,ha,hc⟩:=hW.2 _ hg;have hKT:base.K T.c:=by rw[h2];exact hK
 have haW:W.heap[T.c]? = some (.cells a t fz):=by rw[h.below _ hKT,h2];exact ha
 have hrel:=hc.rel μ;have hlen:cs.length=a.toList.length:=hrel.length;have hor:CZ μ T (.cells cs 0 true) (.cells a t fz):=by
  refine .cells _ _ _ true a t fz.1 fz.2 h4.symm ?_ ?_ (fun e=>by cases e)
  ·rw[h3,O9,hlen,cl];exact hrel
  ·have e:a.toList.length=a.size:=rfl;rw[h3,h5];omega
 have hgt:∀b o,(H.put g (.cells cs 0 true)).get b=some o->(b=g/\o= .cells cs 0 true)∨(b≠g/\H.get b=some o):=fun b o hb=>by
  rw[AA.AU]at hb
  by_cases e:b=g
  ·rw[HI e]at hb;cases hb;exact .inl ⟨e,rfl⟩
  ·rw[E7 e]at hb;exact .inr ⟨e,hb⟩
 obtain⟨φ,q⟩:=h.abs;have hne:∀b o T2,H.get b=some o->μ b=some T2->o.ro=false->¬o.void T2->T2.c≠T.c:=fun b o T2 hb hT hr hv e=>h.own b o hb hr T2 hT hv (by rw[e];exact hKT)
 refine⟨?_,?_,?_,?_,h.bound,h.size,h.below,h.out,h.os,⟨φ,?_,?_⟩,h.le,h.grow⟩
 ·intro b o hb T2 hT;rcases hgt b o hb with⟨rfl,rfl⟩ | ⟨_,hb⟩
  ·rw[h1]at hT;cases hT
   exact⟨_,haW,hor⟩
  ·exact h.obj b o hb T2 hT
 ·intro b o hb hr T2 hT hv;rcases hgt b o hb with⟨rfl,rfl⟩ | ⟨_,hb⟩
  ·cases hr
  ·exact h.own b o hb hr T2 hT hv
 ·intro b1 b2 o1 o2 hb1 hb2 T1 T2 m1 m2 v1 v2 hcc hr;rcases hgt b1 o1 hb1 with⟨rfl,rfl⟩ | ⟨n1,hq1⟩<;>rcases hgt b2 o2 hb2 with⟨rfl,rfl⟩ | ⟨n2,hq2⟩
  ·rfl
  ·rw[h1]at m1;cases m1
   rcases hr with hr | hr
   ·cases hr
   ·exact absurd hcc.symm (hne b2 o2 T2 hq2 m2 hr v2)
  ·rw[h1]at m2;cases m2
   rcases hr with hr | hr
   ·exact absurd hcc (hne b1 o1 T1 hq1 m1 hr v1)
   ·cases hr
  ·exact h.inj b1 b2 o1 o2 hq1 hq2 T1 T2 m1 m2 v1 v2 hcc hr
 ·intro b hb;obtain⟨f1,f2⟩:=h.fresh b hb;refine⟨?_,f2⟩;rw[AA.AU]
  by_cases e:b=g
  ·subst e;rw[h1]at f2;cases f2
  ·rw[E7 e];exact f1
 ·intro b x ro T2 hb hT;rcases hgt b _ hb with⟨_,e⟩ | ⟨_,hb⟩
  ·cases e
  ·exact q.rep b x ro T2 hb hT
 ·intro b x ro T2 hb hT b2 o2 T3 hb2 hT3 hne2;rcases hgt b _ hb with⟨_,e⟩ | ⟨_,hq⟩
  ·cases e
  rcases hgt b2 o2 hb2 with⟨rfl,rfl⟩ | ⟨_,hb2⟩
  ·rw[h1]at hT3;cases hT3
   exact⟨fun _ hφ=>(q.rep b x ro T2 hq hT).2 (hro b x ro hq) _ hφ hKT,fun e=>(by cases e)⟩
  ·exact q.DG b x ro T2 hq hT b2 o2 T3 hb2 hT3 hne2
end
section
variable {X:Ctx} {N:Nat} {D:Nat->Prop} {f:FuncId} {Q:Ih}
theorem Ak.laid {t:Tr Value} {n:Nat} {code:Code} {H:AA} {g:Nat} {cs:AL} (hg:(g,cs)∈X.laid) (hro:∀b a ro,H.get b=some (.abs a ro)->ro=false)
 (h:Ak X N D f Q (Em f t n code (H.put g (.cells cs 0 true)))):Ak X N D f Q (Em f t n code H):=by
 intro base W0 hb0 hDm hok hplan cs0 μ fr cs1 W hm;obtain⟨hH,hlaid,g0,gs,hfr,hcs,hnd⟩:=hm;refine h base W0 hb0 hDm hok hplan cs0 μ fr cs1 W ⟨AJ.AAj hok.1 hlaid hH hg hro,hlaid,?_⟩;cases hcs
 cases hfr with
 | plain fn t n tm todo todo' ds ds' r kd rd rd' ht hi hd hr=>exact⟨[],[],.plain _ _ _ _ _ _ _ _ _ _ _ _ ht hi hd hr,.nil,by simp⟩
end
end Go.AD
namespace Go.AD
open Go.Proofs
def zP:Value:= .agg ⟨[int 5,int 128,int 2,int 200,int 8,int 16,int 1]⟩
def AAg:QG:=⟨Y4,[zP],int 0⟩
def AAn (X:Ctx) (f:FuncId) (n:Nat):BT->Option BT:=
 Nat.rec (motive:=fun _=>BT->Option BT) (fun _=>none) (fun _ ih c=>match FC X f c with
  | some _=>some c
  | none=>match FD X c with
   | some c'=>ih c'
   | none=>none) n
theorem r9 {X:Ctx} {f:FuncId}:∀(n:Nat) (c c':BT),AAn X f n c=some c'->HQ X c c'
 | 0,_,_,h=>by cases h
 | n+1,c,c',h=>by
  have h:(match FC X f c with
   | some _=>some c
   | none=>match FD X c with
    | some c'=>AAn X f n c'
    | none=>none)=some c':=h
  split at h
  ·cases h;exact .run 0 rfl
  ·split at h
   ·rename_i c1 h1;refine .trans (.run 1 ?_) (r9 n c1 c' h);show(match FD X c with | some c'=>some c' | none=>none)=some c1;rw[h1]
   ·cases h
theorem AAH:K0 Tryz.prog AI AAg:=by
 have h1:((AAn X0 Y4 3000 (Em Y4 (CM 0 [zP] .leaf) (BD Y4) (A9 Tryz.prog Y4 []) (KP AI 1))).bind fun c'=>(FC X0 Y4 c').map Prod.fst)=some (int 0):=by kernel_rfl
 cases hr:AAn X0 Y4 3000 (Em Y4 (CM 0 [zP] .leaf) (BD Y4) (A9 Tryz.prog Y4 []) (KP AI 1))with
 | none=>rw[hr]at h1;cases h1
 | some c'=>
  rw[hr]at h1;have h1:(FC X0 Y4 c').map Prod.fst=some (int 0):=h1;cases hd:FC X0 Y4 c' with
  | none=>rw[hd]at h1;cases h1
  | some p=>
   rw[hd]at h1;obtain⟨v,H1⟩:=p;cases h1
   exact Sp (CO.nil _ _) (k:=AAg) (n:=BD Y4) (N:=1) (by kernel_rfl) (r9 _ _ _ hr) hd
def knP (k:QG):HL:=fun args H K=>bif KC (Jw 8) args k.args then K k.v H else False
def Zp (b:Int):AP:= .cells [int 5,.int .u64 b] 0 false
def tbl (b:Nat):AP:= .cells [int 5,int 2,At (b+1),At (b+2),At (b+3),At (b+4),At (b+5)] 0 false
def ABI (n r:Int):Prop:=n=5/\r=2
def tnG (args:AL) (objs:BN):GT:=match args,objs with
 | [.int .i64 n,.int .i64 r],[]=> .ask (ABI n r) (.ret ⟨.tuple ⟨[At 20,int 0]⟩,[],[tbl 20,Zp 31,Zp 0,Zp 0,Zp 0,Zp 0]⟩)
 | _,_=> .fail
theorem ABL (Q:Bm):CU X0 Cz [] bH [20,21,22,23,24,25] 20 Q 3000 (st bH [int 5,int 2] (hp []))=(
 let b:AP:= .cells [(int 5),(int 2),(At 21),(At 22),(At 23),(At 24),(At 25)] 0 false;let a:AP:= .cells [(int 5),(.int IntKind.u64 0)] 0 false;(Q (.tuple ⟨[(At 20),(int 0)]⟩) [some b,some (.cells [(int 5),(.int IntKind.u64 31)] 0 false),some a,some a,some a,some a,some b])):=by kernel_rfl
theorem AA4:CY Tryz.prog AI bH (Ai AI 20 [] tnG):=by
 refine BF (CO.nil _ _) (by kernel_rfl) (n:=BD bH) (by kernel_rfl) (by kernel_rfl) fun argsc objs x hx hro=>?_
 clear hro;unfold tnG at hx;split at hx
 ·rename_i n r;simp only[GT.run]at hx;split at hx
  ·rename_i hp0;cases hx
   obtain⟨rfl,rfl⟩:=hp0;refine⟨VC (by kernel_rfl),Ak.mono (AX.Fh (BK (hs:=[]) (ids:=[20,21,22,23,24,25]) (CB _) (M:=20) (by kernel_rfl) (Q:=fun v os=>v= .tuple ⟨[At 20,int 0]⟩/\os=[some (tbl 20),some (Zp 31),some (Zp 0),some (Zp 0),some (Zp 0),some (Zp 0),some (tbl 20)]) (n:=3000) (by rw[show Em bH (CM 0 [int 5,int 2] .leaf) (BD bH) (A9 Tryz.prog bH []) (DH ⟨.leaf,20⟩ (EH [] 0 []))=st bH [int 5,int 2] (hp [])from rfl,ABL];exact⟨rfl,rfl⟩))) ?_⟩;rintro v H ⟨rfl,hos⟩;have hos:[20,21,22,23,24,25,20].map H.get=_:=hos;simp only[X5,iR,JB,dM]at hos;obtain⟨g20,g21,g22,g23,g24,g25,_⟩:=hos;refine⟨[20,21,22,23,24,25],by decide,fun b hb=>?_,rfl,rfl,fun j b o hj ho=>?_,fun j o hj=>(by cases hj)⟩
   ·simp only[WL,Yk,lG]at hb;show 20<=b;omega
   ·match j,hj,ho with
    | 0,hj,ho=>cases hj;cases ho;exact⟨_,rfl,g20⟩
    | 1,hj,ho=>cases hj;cases ho;exact⟨_,rfl,g21⟩
    | 2,hj,ho=>cases hj;cases ho;exact⟨_,rfl,g22⟩
    | 3,hj,ho=>cases hj;cases ho;exact⟨_,rfl,g23⟩
    | 4,hj,ho=>cases hj;cases ho;exact⟨_,rfl,g24⟩
    | 5,hj,ho=>cases hj;cases ho;exact⟨_,rfl,g25⟩
    | j+6,hj,_=>cases hj
  ·cases hx
 ·cases hx
theorem AA0 {k:QG}:Xf (N6 k) (knP k):=fun X g hX args H K hk=>by
 unfold knP at hk;cases hs:KC (Jw 8) args k.args
 ·rw[hs]at hk;exact hk.elim
 ·rw[hs]at hk;refine⟨k.v,H,?_,hk⟩;unfold CP;simp only[hX];show N6 k args H=_;unfold N6;rw[hs];rfl
def cBd:List GA:=[(DQ,Ai AI 20 [true] (CX 20 (HK fun m=>m.b.length)),Cs AI 20 [true] (CX 20 oa)),
 (Cb,Ai AI 20 [true] (CX 20 M4),Cs AI 20 [true] (CX 20 fR)),
 (Di,Ai AI 20 [true] (CX 20 (FT (fun d=> .bool d.down) id)),Cs AI 20 [true] (CX 20 ax)),
 ON DT (int 5) (FT (fun d=>int d.AR) id),GQ Ac [true] (CX 20 jh),(Y4,N6 AAg,knP AAg),GQ bH [] tnG]
abbrev XBd:Ctx:=Bp Tryz.prog AI (Cv cBd)
def lo0:AP:= .cells [.bool true,.bool false,.bool false,.bool false,.bool false,.int .i64 2] 0 true
def hpL (l:BN):AA:=(hp l).put 0 lo0
def bdS:Stop:=⟨Aq,1,2,21,[0,20],[0,1,9,10]⟩
def bdK:FV:=[(Aq,[0,1,9,10,30]),(Xk,[4,5,6,8,10])]
def bdI:AW:=[20,30,31,32,33,34]
def ABJ:Tr Value:=EZ [(4,At 26),(5,At 24),(6,At 28),(8,At 25),(10,At 27)]
def ABN:AP:= .loop ⟨.ready,none,Xk,ABJ,BD Xk,#[49,50],A9 Tryz.prog Xk [1,1,1,1,1,1,0,1,0,0],A9 Tryz.prog Xk [1,1,1,1,1,1,0,1,0,1],22⟩
def bdT (d:Ab) (x:Cm) (F S:Int) (i:Int):BT:=
 ⟨⟨Aq,EZ [(0,.func (.yield 23) ⟨[]⟩ ⟨[]⟩),(1,At 21),(9,int 5),(10,int i)],BD Aq,[.code (A9 Tryz.prog Aq [1,0,0]),.inLoop (A9 Tryz.prog Aq [1,0,0]),.inBlock 0],[],false,.normal,none⟩,
  [⟨Xk,ABJ,BD Xk,[.inRangeFunc 23,.inBlock 0,.code (A9 Tryz.prog Xk [1,1,1,1,1,1,1])],[⟨.collected 22,⟨[]⟩⟩],false,.normal,none⟩],
  hpL [.abs (.pack (.dev d)) false,.cells [At 20] 0 false,.deferred (some []),ABN,.cells [.pointer none] 0 false,.abs (.pack (.idx x)) false,.cells [.pointer none] 0 false,.cells [At 29] 0 false,.cells [int 0] 0 false,tbl 29,Zp F,Zp 0,Zp S,Zp 0,Zp 0]⟩
theorem ABG (d:Ab) (Q:Bm) (R:Bz):Iy XBd (Ax cBd) [] Xk bdI bdS bdK Q R 3000 (st Xk [At 20,zP] (hpL [.abs (.pack (.dev d)) false]))=(
 let a:=((At 20):Value)=(At 20);a/\(((int (Ab.AR d)):Value)=(int 5))/\(((int 5):Value)=(int 5))/\(((At 21):Value)=(At 21))/\a/\(((int (Ab.AR (id d))):Value)=(int 5))/\(((id (id d)).5)=(false))/\(N9 (id (id d)))/\(ABI 5 2)/\(((int (Ab.AR (id (id d)))):Value)=(int 5))/\(R (bdT d (EG d) 31 0 0))):=by kernel_rfl
def iA (F:Int) (i:Nat):Bool:=IntKind.wrap .u64 ((BitVec.toNat (BitVec.ofInt (IntKind.bits .u64) (Int.fdiv F (2 ^ min i (IntKind.bits .u64))) &&& BitVec.ofInt (IntKind.bits .u64) 1):Nat):Int)==1
def ABC (F b:Int):Int:=IntKind.wrap .u64 ((BitVec.toNat (BitVec.ofInt (IntKind.bits .u64) F &&& ~~~BitVec.ofInt (IntKind.bits .u64) b):Nat):Int)
def ABA (S b:Int):Int:=IntKind.wrap .u64 ((BitVec.toNat (BitVec.ofInt (IntKind.bits .u64) S ||| BitVec.ofInt (IntKind.bits .u64) b):Nat):Int)
def AAw (d:Ab) (F S:Int) (Q:Bm):Prop:=Q (.tuple ⟨[.pointer none,.pointer none,int 7]⟩) [some (.abs (.pack (.dev d)) false),some (Zp F),some (Zp 0),some (Zp S),some (Zp 0),some (Zp 0)]
theorem AAs {i:Nat} (hi:i < 5) (d:Ab) (x:Cm) (F S:Int) (Q:Bm) (R:Bz):Iy XBd (Ax cBd) [] Xk bdI bdS bdK Q R 3000 (bdT d x F S (i:Nat))=
 ((Ab.down d=false/\Ba (Ab.BB d) (i:Nat)=false)/\
 (bif A8 d (i:Nat)==0 then R (bdT d x F S ((i+1:Nat):Int))
 else
  ((Bool.rec (bif Ba (Ab.BB d) (i:Nat)then false else !Ij (CV d (i:Nat)) 0 (A8 d (i:Nat))) false (Ab.down d))=true)/\
  (bif iA F i then R (bdT d x (ABC F ((2 ^ i:Nat):Int)) (ABA S ((2 ^ i:Nat):Int)) ((i+1:Nat):Int))
  else bif iA S i then AAw d F S Q else AAw d F S Q))):=by
  match i,hi with
  | 0,_=>show _=_;kernel_rfl
  | 1,_=>show _=_;kernel_rfl
  | 2,_=>show _=_;kernel_rfl
  | 3,_=>show _=_;kernel_rfl
  | 4,_=>show _=_;kernel_rfl
  | i+5,h=>exact absurd h (by omega)
theorem AA3 (d:Ab) (x:Cm) (F S:Int) (Q:Bm) (R:Bz):Iy XBd (Ax cBd) [] Xk bdI bdS bdK Q R 3000 (bdT d x F S 5)=(
 let a:AP:= .cells [(int 5),(.int IntKind.u64 0)] 0 false;(((At 29):Value)=(At 29))/\(Q (.tuple ⟨[(At 25),(At 29),(int 0)]⟩) [some (.abs (Ct.pack (Pk.dev d)) false),some (.cells [(int 5),(.int IntKind.u64 F)] 0 false),some a,some (.cells [(int 5),(.int IntKind.u64 S)] 0 false),some a,some a,some (.abs (Ct.pack (Pk.idx x)) false),some (.cells [(int 5),(int 2),(At 30),(At 31),(At 32),(At 33),(At 34)] 0 false)])):=by kernel_rfl
theorem ABM:Ci cBd:= .OG Sz Ws <| .OG YH bU <| .OG QK Sy <| .other Ox (KE (M0 _ _)) <| .cons jI <| .other (Kw AAH) AA0 <| .cons AA4 .nil
def zo (b:Nat->Bool):Nat->Nat->Nat->Nat
 | 0,_,m=>m
 | k+1,i,m=>zo b k (i+1) (bif b i then m else m+2 ^ i)
def bdB (d:Ab) (i:Nat):Bool:=A8 d (i:Nat)==0
def bdM (d:Ab):Nat:=zo (bdB d) 5 0 0
def AA7:Bool:=(List.range 5).all fun i=>(List.range (2 ^ i)).all fun m=>iA (31 - (m:Int)) i&&(ABC (31 - (m:Int)) ((2 ^ i:Nat):Int)==31 - ((m+2 ^ i:Nat):Int)&&ABA (m:Int) ((2 ^ i:Nat):Int)==((m+2 ^ i:Nat):Int))
theorem AAh {i m:Nat} (hi:i < 5) (hm:m < 2 ^ i):iA (31 - (m:Int)) i=true/\ABC (31 - (m:Int)) ((2 ^ i:Nat):Int)=31 - ((m+2 ^ i:Nat):Int)/\ABA (m:Int) ((2 ^ i:Nat):Int)=((m+2 ^ i:Nat):Int):=by
 have h:AA7=true:=by kernel_rfl
 have h1:=List.all_eq_true.1 h i (List.mem_range.2 hi);have h2:=List.all_eq_true.1 h1 m (List.mem_range.2 hm);simp only[DL,ABZ]at h2;exact h2
structure AAF (d:Ab):Prop where
 sl:d.AR=5
 dn:d.down=false
 sc:N9 d
 bad:∀i:Nat,i < 5->Ba d.BB (i:Nat)=false
 rd:∀i:Nat,i < 5->bdB d i=false->Kj d (i:Nat) 0 (A8 d (i:Nat))=true
def AAr (d:Ab) (M:Nat) (v:Value) (H:AA):Prop:=v= .tuple ⟨[At 25,At 29,int 0]⟩/\[20,30,31,32,33,34,25,29].map H.get=[some (.abs (.pack (.dev d)) false),some (Zp (31 - (M:Int))),some (Zp 0),some (Zp M),some (Zp 0),some (Zp 0),some (.abs (.pack (.idx (EG d))) false),some (tbl 29)]
theorem zi {Q:Bm} {R:Bz} {Q':Ih} {c:BT} (hQ:∀v H,Q v ((bdI++Au 4 v).map H.get)->Q' v H) (hR:∀c,R c->AX XBd 21 Xk Q' c)
 (h:Iy XBd (Ax cBd) [] Xk bdI bdS bdK Q R 3000 c):AX XBd 21 Xk Q' c:=
 Bq ABM.pf [] bdI bdS bdK (by kernel_rfl) (show 21<=21 from CC _) Q R hQ hR h
theorem AAo {d:Ab} (h:AAF d):∀(k i m:Nat),5 - i=k->i<=5->m < 2 ^ i->AX XBd 21 Xk (AAr d (zo (bdB d) k i m)) (bdT d (EG d) (31 - (m:Int)) m (i:Nat)):=by
 intro k;induction k with
 | zero=>
  intro i m hk hi _;have e:i=5:=by omega
  subst e;refine zi (Q:=fun v os=>v= .tuple ⟨[At 25,At 29,int 0]⟩/\os=[some (.abs (.pack (.dev d)) false),some (Zp (31 - (m:Int))),some (Zp 0),some (Zp m),some (Zp 0),some (Zp 0),some (.abs (.pack (.idx (EG d))) false),some (tbl 29)]) (R:=fun _=>False) (fun v H hq=>?_) (fun c h=>h.elim) ?_
  ·obtain⟨rfl,hos⟩:=hq;exact⟨rfl,hos⟩
  ·show Iy XBd (Ax cBd) [] Xk bdI bdS bdK _ _ 3000 (bdT d (EG d) (31 - (m:Int)) m 5);rw[AA3];exact⟨rfl,rfl,rfl⟩
 | succ k ih=>
  intro i m hk hi hm;have hi5:i < 5:=by omega
  obtain⟨b1,b2,b3⟩:=AAh hi5 hm;have hp:2 ^ (i+1)=2 ^ i+2 ^ i:=by rw[ACA];omega
  cases h0:bdB d i
  ·refine zi (Q:=fun _ _=>False) (R:=fun c=>c=bdT d (EG d) (31 - ((m+2 ^ i:Nat):Int)) ((m+2 ^ i:Nat):Int) ((i+1:Nat):Int)) (fun v H hq=>hq.elim) (fun c hc=>?_) ?_
   ·rw[hc];have:=ih (i+1) (m+2 ^ i) (by omega) (by omega) (by omega);unfold zo;rw[h0,NJ];exact this
   ·rw[AAs hi5,b2,b3];exact⟨⟨h.dn,h.bad i hi5⟩,AZ h0 ⟨ad _ _ (h.rd i hi5 h0),AB b1 rfl⟩⟩
  ·refine zi (Q:=fun _ _=>False) (R:=fun c=>c=bdT d (EG d) (31 - (m:Int)) m ((i+1:Nat):Int)) (fun v H hq=>hq.elim) (fun c hc=>?_) ?_
   ·rw[hc];have:=ih (i+1) m (by omega) (by omega) (by omega);unfold zo;rw[h0,Al];exact this
   ·rw[AAs hi5];exact⟨⟨h.dn,h.bad i hi5⟩,AB h0 rfl⟩
theorem AA9 {d:Ab} (h:AAF d):AX XBd 21 Xk (AAr d (bdM d)) (st Xk [At 20,zP] (hpL [.abs (.pack (.dev d)) false])):=by
 refine zi (Q:=fun _ _=>False) (R:=fun c=>c=bdT d (EG d) (31 - ((0:Nat):Int)) ((0:Nat):Int) ((0:Nat):Int)) (fun v H hq=>hq.elim) (fun c hc=>?_) ?_
 ·rw[hc];exact AAo h 5 0 0 rfl (by omega) (by decide)
 ·rw[ABG];exact⟨rfl,congrArg int h.sl,rfl,rfl,rfl,congrArg int h.sl,h.dn,h.sc,⟨rfl,rfl⟩,congrArg int h.sl,rfl⟩
def ABO (a b c w k v p:Int):Prop:=a=5/\b=128/\c=2/\w=200/\k=8/\v=16/\p=1
def bdP:Gk:=fun p rest os=>match p,rest,os with
 | .dev d,[.agg ⟨[.int .i64 a,.int .i64 b,.int .i64 c,.int .i64 w,.int .i64 k,.int .i64 v,.int .i64 p]⟩],[]=> .ask (ABO a b c w k v p/\AAF d) (.ret ⟨.tuple ⟨[At 21,At 22,int 0]⟩,.dev d,[.abs (.pack (.idx (EG d))) false,tbl 22,Zp (31 - (bdM d:Int)),Zp 0,Zp (bdM d),Zp 0,Zp 0]⟩)
 | _,_,_=> .fail
theorem ABD:CY Tryz.prog AI Xk (Ai AI 20 [true] (CX 20 bdP)):=by
 refine UP ABM.all (n:=BD Xk) (by kernel_rfl) fun s rest os=>?_
 unfold bdP;split
 ·rename_i d a b c w k v p;rintro⟨⟨rfl,rfl,rfl,rfl,rfl,rfl,rfl⟩,h⟩;refine⟨VC (by kernel_rfl),Ak.laid (g:=0) (cs:=[.bool true,.bool false,.bool false,.bool false,.bool false,.int .i64 2]) (bB ..) (fun b a ro hb=>?_) (Ak.mono (AX.Fh (AA9 h)) ?_)⟩
  ·have hb:(hp [.abs (.pack (.dev d)) false]).get b=some (.abs a ro):=hb;unfold hp at hb;rw[Fc]at hb;simp only at hb;split at hb
   ·cases hb
   ·match h2:b - 20,hb with
    | 0,hb=>cases hb;rfl
    | j+1,hb=>cases hb
  ·rintro v H ⟨rfl,hos⟩;simp only[X5,iR,JB,dM]at hos;obtain⟨g20,g30,g31,g32,g33,g34,g25,g29⟩:=hos;refine⟨[25,29,30,31,32,33,34],by decide,fun b hb=>?_,rfl,rfl,fun j b o hj ho=>?_,fun j o hj _ ho=>?_⟩
   ·simp only[WL,Yk,lG]at hb;show 20+1<=b;omega
   ·match j,hj,ho with
    | 0,hj,ho=>cases hj;cases ho;exact⟨_,rfl,g25⟩
    | 1,hj,ho=>cases hj;cases ho;exact⟨_,rfl,g29⟩
    | 2,hj,ho=>cases hj;cases ho;exact⟨_,rfl,g30⟩
    | 3,hj,ho=>cases hj;cases ho;exact⟨_,rfl,g31⟩
    | 4,hj,ho=>cases hj;cases ho;exact⟨_,rfl,g32⟩
    | 5,hj,ho=>cases hj;cases ho;exact⟨_,rfl,g33⟩
    | 6,hj,ho=>cases hj;cases ho;exact⟨_,rfl,g34⟩
    | j+7,hj,_=>cases hj
   ·have hj:j=0:=by have hj:j < 0+1:=hj;omega
    subst hj;cases ho
    exact⟨_,rfl,g20⟩
 ·trivial
theorem A5.AAd {X:Ctx} {N:Nat} {Φ:Bz} {fn:FuncId} {t:Tr Value} {n:Nat} {todo:List B9} {ds:List Deferred} {r:Bool} {kd:CallKind} {rd:Option Nat} {cs:List Aj} {H:AA} (b a:Nat) (k:EK) (l:List (EK.C k)) (pre post:AL) {m c e:Nat} {ro ra:Bool}
 (hd:C6 todo=true) (hds:(cs.all fun f=>C6 f.todo)=true) (hb:H.get b=some (.cells (pre++ .slice (some ⟨a,0,none⟩) m c::post) e ro)) (ha:H.get a=some (.cells (Ag k l) k.length ra)) (hne:a≠b) (h1:m<=c) (h2:c<=l.length) (h3:1<=c) (h4:c<=1000) (hk:k.length≠0)
 (hr:A5 X N ⟨⟨fn,t,n,todo,ds,r,kd,rd⟩,cs,(H.put b (.cells (pre++ .slice (some ⟨a,0,some 0⟩) m Aa::post) e ro)).put a (.vec k l ra)⟩ Φ):A5 X N ⟨⟨fn,t,n,todo,ds,r,kd,rd⟩,cs,H⟩ Φ:=by
 intro base W0 hb0 hok hplan cs0 μ fr cs' W hm;obtain⟨hH,hlaid,g,gs,hfr,hcs,hnd⟩:=hm;cases hfr with
 | plain fn t n tm todo todo' ds ds' r kd rd rd' ht hi2 hd2 hr2=>
  have g1:=hH.swap (o1:= .cells (pre++ .slice (some ⟨a,0,some 0⟩) m Aa::post) e ro) hb (fun T' o' _ ho=>by
   cases ho with
   | cells _ _ _ c' t lo hi he hc hr hf=>
    refine .cells T' _ e ro c' t lo hi he ?_ hr hf;have hc2:=Kx (a1:= .slice (some ⟨a,0,some 0⟩) m Aa) (Ae.le_refl _) (fun v' hv=>tq hH ha h1 h2 h3 h4 hk hv) pre _ hc;have e1:(pre++Value.slice (some ⟨a,0,none⟩) m c::post).length=(pre++Value.slice (some ⟨a,0,some 0⟩) m Aa::post).length:=by simp
    rw[<-e1];exact hc2) rfl rfl rfl (fun _ _ hv=>hv)
  have g2:=g1.JF (b:=a) (k:=k) (l:=l) (ro:=ra) (by rw[AA.AU,E7 hne];exact ha);have hcs2:=Rr (ks:=[]) (H':=(H.put b (.cells (pre++ .slice (some ⟨a,0,some 0⟩) m Aa::post) e ro)).put a (.vec k l ra)) hcs hds;have e:cs.map (Ir [])=cs:=by
   refine(ib fun f _=>?_).trans (AB0 _);cases f;rfl
  rw[e]at hcs2;exact hr base W0 hb0 hok hplan cs0 _ _ cs' W ⟨g2,hlaid,[],[],.plain fn t n tm todo todo' ds ds' r kd rd rd' ht hi2 hd2 hr2,hcs2,by simp⟩
 | drawn fn t n tm ops BJ idx D G k k' ds ds' kd rd rd' hD hk2 hd2 hr2=>cases hd
abbrev kb:EK:=[.int .u16]
def cFi:List GA:=[GQ AF [] xy,ON EB (int 0) T6,ON Di (.bool true) (FT (fun d=> .bool d.down) id),
 GQ Dg [true] (CX 20 yY),GQ Ac [true] (CX 20 jh),GQ Xk [true] (CX 20 bdP),GQ AN [true] (CX 20 yA),
 (DQ,Ai AI 20 [true] (CX 20 (HK fun m=>m.b.length)),Cs AI 20 [true] (CX 20 oa)),GQ A6 [] xv,GQ BG [true] (CX 20 ZK),(Dj,uw,yQ)]
abbrev XFi:Ctx:=Bp Tryz.prog AI (Cv cFi)
def y9 (S:Stop) (h1:BT->Bool) (S2:Stop) (h2:BT->Bool) (Q:Bm) (R R2:Bz) (x:BT):Prop:=NH XFi (Ax cFi) [] SD [] S h1 S2 h2 [] Q R R2 3000 x
abbrev zM (n:Nat) (c:BT):Bool:=Il SD n c
abbrev iC (S:Stop) (n:Nat) (c:BT):Bool:=S.here c&&Rg n c
def rfC (b:Nat) (L:Nat->Aw) (u:Nat->Int):AP:= .cells [At b,Ao (b+1) (L 0).length,Ao (b+2) (L 1).length,Ao (b+3) (L 2).length,Ao (b+4) (L 3).length,Ao (b+5) (L 4).length,int (u 0),int (u 1),int (u 2),int (u 3),int (u 4)] 0 false
def rfR (d:Ab) (L:Nat->Aw):BN:=[.abs (.pack (.dev d)) false,.vec Ah (L 0) false,.vec Ah (L 1) false,.vec Ah (L 2) false,.vec Ah (L 3) false,.vec Ah (L 4) false]
def rfK (v:Value):AP:= .cells [int 0,.bool false,v] 0 false
def AAl (t:Tr Value) (todo:List B9):Aj:=⟨SD,t,BD SD,todo,[],false,.normal,none⟩
abbrev zZ (p:AW):Code:=A9 Tryz.prog SD p
def rfS (len:Nat) (live:AW):Stop:=⟨SD,0,len,22,[20,21],live⟩
def lu:Stop:=rfS 4 [1,7,8,41,42,43]
def zH:Stop:=rfS 3 [1,7]
def rfA (c:Bool) (k:Nat) (i:Int):Aj:=AAl (EZ [(1,.bool c),(7,At 22),(8,At 23),(41,Ao 21 k),(42,int k),(43,int i)]) [.code (zZ [1,1,1,0,1,0,1,0,1,0,0]),.inLoop (zZ [1,1,1,0,1,0,1,0,1,0,0]),.inBlock 0,.code (zZ [1,1,1,0,1,0,1,1]),.code (zZ [1,1,1,1])]
def ABB (l:List B2) (kp:Ad) (d:Ab) (L:Nat->Aw) (u:Nat->Int) (c:Bool) (k:Nat) (i:Int):BT:=⟨rfA c k i,[],hp ([.vec JQ l true,.vec kb kp true,rfC 24 L u,rfK (.slice (some ⟨30,0,none⟩) 1 1)]++rfR d L++[.cells [int 0] 1 false])⟩
def AAm (l:List B2) (kp:Ad) (d:Ab) (L:Nat->Aw) (u:Nat->Int) (c:Bool) (k:Nat) (t:Ad) (m:Nat) (i:Int):BT:=⟨rfA c k i,[],hp ([.vec JQ l true,.vec kb kp true,rfC 24 L u,rfK (Ao 30 m)]++rfR d L++[.vec kI t false])⟩
def gV (l:List B2) (kp:Ad) (d:Ab) (L:Nat->Aw) (u:Nat->Int) (c:Bool):BT:=⟨AAl (EZ [(1,.bool c),(7,At 22)]) [.code (zZ [1,1,1,1,0]),.code (zZ [1,1,1,1,1])],[],hp ([.vec JQ l true,.vec kb kp true,rfC 23 L u]++rfR d L)⟩
theorem AA5 (l:List B2) (kp:Ad) (m km:Nat) (c:Bool) (Q:Bm) (R R2:Bz):y9 lu (iC lu 0) zH (zM 13) Q R R2 (st SD [Ao 20 m,.bool c,Ao 21 km] (hp [.vec JQ l true,.vec kb kp true]))=(
 let b:=PF.d (Eo l (Mc m) 0 Oo);let a:=if 5 < Int.ofNat km then 5 else Int.ofNat km;(m=l.length/\WI l (Mc m) 0 Oo)/\(bif c then(bif decide (0<=if 5 < Int.ofNat km then 5 else Int.ofNat km)&&Nat.ble a.toNat km&&decide (0<=0)&&Nat.ble 0 a.toNat then(R (ABB l kp b (wO l m).L (wO l m).u c (a.toNat - 0) 0))else False)else(R2 (gV l kp b (wO l m).L (wO l m).u c)))):=by kernel_rfl
theorem AAK (l:List B2) (kp:Ad) (d:Ab) (L:Nat->Aw) (u:Nat->Int) (c:Bool) (k:Nat) (t:Ad) (m:Nat) (i:Int) (Q:Bm) (R R2:Bz):y9 lu (iC lu 0) zH (zM 13) Q R R2 (AAm l kp d L u c k t m i)=(
 let a:=Kd d 0 false t;(bif decide (i < (k:Int))then(bif decide (0<=i)&&Nat.blt i.toNat k then(bif Nat.blt (0+i.toNat) kp.length then(bif true&&Nat.ble (0+m) t.length&&BQ 8 (m+1)then(R (AAm l kp d L u c k (List.take m (List.drop 0 t)++[IntKind.wrap .i64 (Int.tmod (List.getD kp (0+i.toNat) (EK.BL kb)) 700)]) (m+1) (IntKind.wrap .i64 (i+1))))else False)else False)else False)else(m=t.length/\m < 1000)/\(((int a.1):Value)=(int 0))/\(((.bool (Ab.down a.2)):Value)=(.bool true))/\(R2 (gV l kp ({ BB:=Ab.BB (id a.2),BJ:=Ab.BJ (id a.2),AR:=Ab.AR (id a.2),ops:=Ab.ops (id a.2),down:=false }) L u c)))):=by kernel_rfl
def ABK:AP:= .cells [int 5,int 128,int 2,int 200,int 8,int 16,int 1] 0 false
def AAu:AW:=[20,21,22,23,24,25,26,27,28]
def ch:Stop:=⟨SD,0,3,29,AAu,[1,7,11,13,14,15,17,108,109]⟩
def jr (l:List B2) (kp:Ad) (d:Ab) (x:Cm) (F S:Int) (L:Nat->Aw) (u:Nat->Int) (c:Bool) (tot i:Int):BT:=⟨AAl (EZ [(1,.bool c),(7,At 22),(11,At 29),(13,At 30),(14,At 31),(15,At 32),(17,int tot),(108,.agg ⟨[Ao 24 (L 0).length,Ao 25 (L 1).length,Ao 26 (L 2).length,Ao 27 (L 3).length,Ao 28 (L 4).length]⟩),(109,int i)]) [.code (zZ [1,1,1,1,1,1,1,1,1,1,0,1,0,0]),.inLoop (zZ [1,1,1,1,1,1,1,1,1,1,0,1,0,0]),.inBlock 2,.code (zZ [1,1,1,1,1,1,1,1,1,1,1])],[],
 hp ([.vec JQ l true,.vec kb kp true,rfC 23 L u]++rfR d L++[.abs (.pack (.idx x)) false,ABK,.abs (.pack (.idx x)) false,tbl 32,Zp F,Zp 0,Zp S,Zp 0,Zp 0])⟩
theorem ABE (l:List B2) (kp:Ad) (d:Ab) (L:Nat->Aw) (u:Nat->Int) (c:Bool) (Q:Bm) (R:Bz):y9 ch (iC ch 2) ch Jo Q R (fun _=>False) (gV l kp d L u c)=(
 let a:=((int 0):Value)=(int 0);(N9 d)/\(ABO 5 128 2 200 8 16 1/\AAF d)/\a/\(((At 33):Value)=(At 33))/\a/\(R (jr l kp d (EG d) (31 - ((bdM d):Int)) (((bdM d):Int)) L u c 0 0))):=by kernel_rfl
def AAx:Stop:=⟨SD,0,3,29,AAu,[1,7,11,13,14,15,17,108,109,19,20,21]⟩
def za (l:List B2) (kp:Ad) (d:Ab) (x:Cm) (F S:Int) (L:Nat->Aw) (u:Nat->Int) (c:Bool) (tot:Int) (i:Nat) (g:Aw) (m:Nat) (n:Int):BT:=⟨AAl (EZ [(1,.bool c),(7,At 22),(11,At 29),(13,At 30),(14,At 31),(15,At 32),(17,int tot),(108,.agg ⟨[Ao 24 (L 0).length,Ao 25 (L 1).length,Ao 26 (L 2).length,Ao 27 (L 3).length,Ao 28 (L 4).length]⟩),(109,int (i:Nat)),(19,Ao (24+i) (L i).length),(20,Ao 33 m),(21,int n)])
 [.code (zZ [1,1,1,1,1,1,1,1,1,1,0,1,0,0,1,1,0,0,1,1,1,1,1,1,0]),.code (zZ [1,1,1,1,1,1,1,1,1,1,0,1,0,0,1,1,0,0,1,1,1,1,1,1,1]),.inBlock 3,.code (zZ [1,1,1,1,1,1,1,1,1,1,0,1,0,0,1,1,1]),.inLoop (zZ [1,1,1,1,1,1,1,1,1,1,0,1,0,0]),.inBlock 2,.code (zZ [1,1,1,1,1,1,1,1,1,1,1])],[],
 hp ([.vec JQ l true,.vec kb kp true,rfC 23 L u]++rfR d L++[.abs (.pack (.idx x)) false,ABK,.abs (.pack (.idx x)) false,.cells [int 5,int 2,At 34,At 35,At 36,At 37,At 38] 0 false,.vec Ah g false,Zp F,Zp 0,Zp S,Zp 0,Zp 0])⟩
def rfW (x:Cm) (L:Nat->Aw) (u:Nat->Int) (i:Nat) (c:Bool) (B T:Prop):Prop:=
 bif decide (Int.ofNat (Ux x (i:Nat)).length > Int.ofNat (L i).length)then B else bif decide (Int.ofNat (Ux x (i:Nat)).length < u i)then B else
 bif decide (0<=Int.ofNat (Ux x (i:Nat)).length)&&Nat.ble (Int.toNat (Int.ofNat (Ux x (i:Nat)).length)) (L i).length&&decide ((0:Int)<=0)&&Nat.ble 0 (Int.toNat (Int.ofNat (Ux x (i:Nat)).length))then
  PR (Ux x (i:Nat)) (L i) (Ux x (i:Nat)).length (Int.toNat (Int.ofNat (Ux x (i:Nat)).length) - 0)/\
  (bif c then((i:Int)=(i:Int)/\V4 x i)/\PR (Ux x (i:Nat)) (Ux x (i:Nat)) (Ux x (i:Nat)).length (Ux x (i:Nat)).length/\T
   else bif Int.ofNat (Ux x (i:Nat)).length != Int.ofNat (L i).length then B else((i:Int)=(i:Int)/\V4 x i)/\PR (Ux x (i:Nat)) (Ux x (i:Nat)) (Ux x (i:Nat)).length (Ux x (i:Nat)).length/\T)
 else False
theorem AA1 {i:Nat} (hi:i < 5) (l:List B2) (kp:Ad) (d:Ab) (x:Cm) (F S:Int) (L:Nat->Aw) (u:Nat->Int) (c:Bool) (tot:Int) (Q:Bm) (R:Bz):y9 AAx (zM 29) ch Jo Q R (fun _=>False) (jr l kp d x F S L u c tot (i:Nat))=
 (((i:Int)=(i:Int)/\V4 x i)/\(Ab.down d=false/\Ba (Ab.BB d) (i:Nat)=false)/\
  (bif iA F i then rfW x L u i c (Q (.bool false) []) (bif decide (A8 d (i:Nat) > 0)then Q (.bool false) []else bif A8 d (i:Nat)==0 then R (za l kp d x F S L u c (IntKind.wrap .i64 (tot+A8 d (i:Nat))) i (Ux x (i:Nat)) (Ux x (i:Nat)).length (A8 d (i:Nat)))else Q (.bool false) [])
   else bif iA S i then rfW x L u i c (Q (.bool false) []) (bif decide (A8 d (i:Nat) > 0)then(bif A8 d (i:Nat)==0 then Q (.bool false) []else R (za l kp d x F S L u c (IntKind.wrap .i64 (tot+A8 d (i:Nat))) i (Ux x (i:Nat)) (Ux x (i:Nat)).length (A8 d (i:Nat))))else Q (.bool false) [])
   else rfW x L u i c (Q (.bool false) []) (Q (.bool false) []))):=by
 match i,hi with
 | 0,_=>show _=_;kernel_rfl
 | 1,_=>show _=_;kernel_rfl
 | 2,_=>show _=_;kernel_rfl
 | 3,_=>show _=_;kernel_rfl
 | 4,_=>show _=_;kernel_rfl
 | i+5,h=>exact absurd h (by omega)
def zl (e:NQ):Int:=IntKind.wrap .i64 (e.2.2.2.2.1+e.2.2.2.2.2)
def rfV (ls:Aw) (m:Nat) (n:Int) (B T:Prop):Prop:=
 bif decide (Int.ofNat m < Int.ofNat ls.length)then bif decide (0<=Int.ofNat m)&&Nat.blt (Int.toNat (Int.ofNat m)) ls.length then bif Nat.blt (0+Int.toNat (Int.ofNat m)) ls.length then bif decide (0<=Int.ofNat m)&&Nat.blt (Int.toNat (Int.ofNat m)) ls.length then bif Nat.blt (0+Int.toNat (Int.ofNat m)) ls.length then
  bif decide (zl (DI ls (0+Int.toNat (Int.ofNat m)))<=n)then B else T else False else False else False else False
 else T
theorem ABF {i:Nat} (hi:i < 5) (l:List B2) (kp:Ad) (d:Ab) (x:Cm) (F S:Int) (L:Nat->Aw) (u:Nat->Int) (c:Bool) (tot:Int) (g:Aw) (m:Nat) (n:Int) (Q:Bm) (R:Bz):y9 ch (iC ch 2) ch Jo Q R (fun _=>False) (za l kp d x F S L u c tot i g m n)=
 (bif decide (Int.ofNat m > 0)then
  bif decide (0<=IntKind.wrap .i64 (Int.ofNat m - 1))&&Nat.blt (Int.toNat (IntKind.wrap .i64 (Int.ofNat m - 1))) m then bif Nat.blt (0+Int.toNat (IntKind.wrap .i64 (Int.ofNat m - 1))) g.length then
  bif decide (0<=IntKind.wrap .i64 (Int.ofNat m - 1))&&Nat.blt (Int.toNat (IntKind.wrap .i64 (Int.ofNat m - 1))) m then bif Nat.blt (0+Int.toNat (IntKind.wrap .i64 (Int.ofNat m - 1))) g.length then
   bif decide (zl (DI g (0+Int.toNat (IntKind.wrap .i64 (Int.ofNat m - 1)))) > n)then Q (.bool false) []else rfV (L i) m n (Q (.bool false) []) (R (jr l kp d x F S L u c tot ((i+1:Nat):Int)))
  else False else False else False else False
  else bif decide (0 > n)then Q (.bool false) []else rfV (L i) m n (Q (.bool false) []) (R (jr l kp d x F S L u c tot ((i+1:Nat):Int)))):=by
 match i,hi with
 | 0,_=>show _=_;kernel_rfl
 | 1,_=>show _=_;kernel_rfl
 | 2,_=>show _=_;kernel_rfl
 | 3,_=>show _=_;kernel_rfl
 | 4,_=>show _=_;kernel_rfl
 | i+5,h=>exact absurd h (by omega)
theorem AA8 (l:List B2) (kp:Ad) (d:Ab) (x:Cm) (F S:Int) (L:Nat->Aw) (u:Nat->Int) (c:Bool) (tot:Int) (Q:Bm) (R:Bz):y9 ch (iC ch 2) ch Jo Q R (fun _=>False) (jr l kp d x F S L u c tot 5)=(
 let b:Value:= .pointer (some ⟨32,1,none⟩);let a:=((At 32):Value)=(At 32);(kR d)/\(((int 2):Value)=(int 2))/\((b:Value)=b)/\a/\a/\(bif gO d==tot then(Q (.bool true) [])else(Q (.bool false) []))):=by kernel_rfl
theorem oo {a x t:Nat} (ht:t < 8) (ha:a < 2 ^ (8 * t)) (hx:x < 256):yD (a:Int) (x:Int) (8 * t)=((a+2 ^ (8 * t) * x:Nat):Int):=by
 have hp:2 ^ (8 * t)<=2 ^ 56:=Nat.pow_le_pow_right (by decide) (by omega);have hp56:(2:Nat) ^ 56=72057594037927936:=by decide
 have hmul:2 ^ (8 * t) * x<=2 ^ 56 * 255:=Nat.mul_le_mul hp (by omega);have hsum:a+2 ^ (8 * t) * x < 18446744073709551616:=by omega
 unfold yD;have e0:min (8 * t) (IntKind.bits .u64)=8 * t:=bV (by show 8 * t<=64;omega);rw[e0];have e1:IntKind.wrap .u64 (x:Int)=(x:Int):=M9 (by omega) (by omega);rw[e1];have e2:((x:Int) * 2 ^ (8 * t))=((2 ^ (8 * t) * x:Nat):Int):=by
  rw[ACB,Int.mul_comm,Int.natCast_pow];rfl
 have e5:IntKind.wrap .u64 ((2 ^ (8 * t) * x:Nat):Int)=((2 ^ (8 * t) * x:Nat):Int):=M9 (by omega) (by omega);rw[e2,e5];have e3:∀y:Nat,BitVec.toNat (BitVec.ofInt (IntKind.bits .u64) (y:Int))=y % 2 ^ 64:=fun y=>by
  show BitVec.toNat (BitVec.ofInt 64 (y:Int))=_;rw[BitVec.ofInt_natCast,BitVec.toNat_ofNat]
 have e4:(BitVec.ofInt (IntKind.bits .u64) (a:Int) ||| BitVec.ofInt (IntKind.bits .u64) ((2 ^ (8 * t) * x:Nat):Int)).toNat=a+2 ^ (8 * t) * x:=by
  rw[BitVec.toNat_or,e3,e3,ABj (by omega),ABj (by omega)];have h:=Nat.shiftLeft_add_eq_or_of_lt ha x;rw[Nat.shiftLeft_eq,ABu]at h;rw[Nat.or_comm,<-h,AB7]
 rw[e4];exact M9 (by omega) (by omega)
theorem VX {g:Nat->Int} {Q:Nat}:∀(w:Nat),w<=8->(∀t,t < w->g t=((Q / 2 ^ (8 * t) % 256:Nat):Int))->JU g w=((Q % 2 ^ (8 * w):Nat):Int)
 | 0,_,_=>by
  show(0:Int)=((Q % 2 ^ 0:Nat):Int);rw[AB9,Nat.mod_one];rfl
 | w+1,hw,hg=>by
  unfold JU;rw[VX w (by omega) (fun t ht=>hg t (by omega)),hg w (by omega)];rw[oo (by omega) (ABh _ (Nat.two_pow_pos _)) (ABh _ (by decide))]
  congr 1
  have e:(2:Nat) ^ (8 * (w+1))=2 ^ (8 * w) * 256:=by rw[show 8 * (w+1)=8 * w+8 from by omega,Nat.pow_add]
  rw[e,Nat.mod_mul]
theorem l5 {Q w t:Nat} (ht:t < w) (hw:w<=8):(IM (Q:Int) w)[t]? = some ((Q / 2 ^ (8 * t) % 256:Nat):Int):=by
 unfold IM;rw[LW,pb ht,WE]
 congr 1
 have e0:min (8 * t) (IntKind.bits .u64)=8 * t:=bV (by show 8 * t<=64;omega);rw[e0];have e1:(2:Int) ^ (8 * t)=((2 ^ (8 * t):Nat):Int):=(Int.natCast_pow 2 (8 * t)).symm;rw[e1,ABT _ (WQ _),<-Int.natCast_ediv];generalize Q / 2 ^ (8 * t)=y;simp[IntKind.wrap,IntKind.bits,IntKind.signed]
theorem mX {l:Ad} {p Q w:Nat} (hw:w<=8) (hQ:Q < 2 ^ (8 * w)) (hl:∀t,t < w->l[p+t]? = (IM (Q:Int) w)[t]?):JU (EC l p) w=(Q:Int):=by
 rw[VX (Q:=Q) w hw fun t ht=>?_,ABj hQ];unfold EC;rw[F5,hl t ht,l5 ht hw];rfl
theorem Lt (s:As):Fy (B1 s)=s:=by
 unfold Fy B1;rw[uk];have:(s.data.toList.map ((fun n:Int=>UInt8.ofNat n.toNat) ∘ fun b=>(b.toNat:Int)))=s.data.toList:=by
  refine(ib (g:=id) fun b _=>?_).trans (AB0 _);show UInt8.ofNat ((b.toNat:Int)).toNat=b;rw[HR];exact UInt8.ofNat_toNat
 rw[this]
def Tf (l:Ad) (j:Nat) (bs:Ad):Prop:=∀t,t < bs.length->l[j+t]? = bs[t]?
theorem Tf.left {l:Ad} {j:Nat} {A B:Ad} (h:Tf l j (A++B)):Tf l j A:=fun t ht=>by
 rw[h t (by rw[Fu];omega),Y5 ht]
theorem Tf.right {l:Ad} {j:Nat} {A B:Ad} (h:Tf l j (A++B)):Tf l (j+A.length) B:=fun t ht=>by
 have:=h (A.length+t) (by rw[Fu];omega);rw[WO (Nat.le_add_right _ _),sQ]at this;rw[XY,this]
theorem Tf.take {l:Ad} {j:Nat} {A:Ad} (h:Tf l j A):(l.drop j).take A.length=A:=by
 apply ABQ
 intro t;rw[Yy,Vs];split
 ·rename_i ht;exact h t ht
 ·rename_i ht;rw[NC (by omega)]
theorem Tf.num {l:Ad} {j Q w:Nat} (h:Tf l j (IM (Q:Int) w)) (hw:w<=8) (hQ:Q < 2 ^ (8 * w)):JU (EC l j) w=(Q:Int):=
 mX hw hQ fun t ht=>h t (by rw[JX];exact ht)
theorem o6 {l:Ad} {j:Nat} {S K A B Q:Nat} (hS:S < 4294967296) (hK:K < 256) (hA:A < 256) (hB:B < 65536) (hQ:Q < 9223372036854775808) (h:Tf l j (UD S K A B Q)):BS l j=⟨S,K,A,B,Q⟩:=by
 unfold UD at h;have h8:=h.right;have h6:=h.left.right;have h5:=h.left.left.right;have h4:=h.left.left.left.right;have h0:=h.left.left.left.left;simp only[Fu,JX]at h8 h6 h5 h4;have n0:=h0.num (by decide) (by rw[show(2:Nat) ^ (8 * 4)=4294967296 from by decide];exact hS);have n4:=h4.num (by decide) (by rw[show(2:Nat) ^ (8 * 1)=256 from by decide];exact hK);have n5:=h5.num (by decide) (by rw[show(2:Nat) ^ (8 * 1)=256 from by decide];exact hA);have n6:=h6.num (by decide) (by rw[show(2:Nat) ^ (8 * 2)=65536 from by decide];exact hB);have n8:=h8.num (by decide) (by rw[show(2:Nat) ^ (8 * 8)=18446744073709551616 from by decide];omega);unfold BS;rw[show j+(4+1)=j+5 from rfl]at n5;rw[show j+(4+1+1)=j+6 from rfl]at n6;rw[show j+(4+1+1+2)=j+8 from rfl]at n8;rw[kj,n0,n4,n5,n6,n8];have w32:IntKind.wrap .u32 (S:Int)=(S:Int):=by simp[IntKind.wrap,IntKind.bits,IntKind.signed];omega
 have w64':∀x:Nat,x < 9223372036854775808->IntKind.wrap .i64 (x:Int)=(x:Int):=fun x hx=>wrap64 (by omega) (by omega)
 rw[w32,w64' K (by omega),w64' A (by omega),w64' B (by omega),w64' Q hQ]
structure C2 where
 k:Nat
 q:Nat
 a:As
 b:As
def C2.ok (r:C2):Prop:=DR r.k r.q r.a r.b=true
def C2.bytes (r:C2):Ad:=E3 r.k r.q r.a r.b
def C2.size (r:C2):Nat:=Bu r.a r.b
theorem C2.len (r:C2):r.bytes.length=r.size:=E9 _ _ _ _
theorem U1 {r:C2} (h:r.ok) {l:Ad} {j:Nat} (hp:Tf l j (UD (EA r.k r.q r.a r.b) r.k r.a.size r.b.size r.q)):BS l j=⟨EA r.k r.q r.a r.b,r.k,r.a.size,r.b.size,r.q⟩:=by
 have hF:=JH h;obtain⟨s0,s1⟩:=aA 0 (Wq r.k r.q r.a r.b);have hs:EA r.k r.q r.a r.b=Er 0 (Wq r.k r.q r.a r.b):=rfl;rw[<-hs]at s0 s1;obtain⟨S,hS⟩:∃S:Nat,EA r.k r.q r.a r.b=(S:Int):=⟨(EA r.k r.q r.a r.b).toNat,by omega⟩
 rw[hS]at hp ⊢ s1;have q1:=hF.q1;have a1:=hF.a1;have b1:=hF.b1;have hk:=hF.hk;exact o6 (by omega) (by rcases hk with hk | ⟨hk,_⟩<;>omega) (by omega) (by omega) (by omega) hp
theorem me {r:C2} (h:r.ok) (S:Int):Ex ⟨S,r.k,r.a.size,r.b.size,r.q⟩=true/\((r.k:Int)==3)=false:=by
 have hF:=JH h;have q0:=hF.q0;have q1:=hF.q1;have a0:=hF.a0;have a1:=hF.a1;have b1:=hF.b1;have d:∀{p:Prop} [Decidable p],p->decide p=true:=fun h=>Fp h
 have b0:(0:Int)<=(r.b.size:Int):=WQ _;rcases hF.hk with hk | ⟨hk,hb⟩
 ·rw[hk];refine⟨?_,rfl⟩;unfold Ex mQ;show(decide ((r.a.size:Int)≥1)&&decide ((r.a.size:Int)<=32)&&decide ((r.b.size:Int)≥0)&&decide ((r.b.size:Int)<=512)&&decide ((r.q:Int)≥1)&&decide ((r.q:Int)<=1099511627776))=true;rw[d (show(r.a.size:Int)≥1 by omega),d (show(r.a.size:Int)<=32 by omega),d (show(r.b.size:Int)≥0 by omega),d (show(r.b.size:Int)<=512 by omega),d (show(r.q:Int)≥1 by omega),d (show(r.q:Int)<=1099511627776 by omega)];rfl
 ·rw[hk];refine⟨?_,rfl⟩;unfold Ex mQ;show(decide ((r.a.size:Int)≥1)&&decide ((r.a.size:Int)<=32)&&decide ((r.b.size:Int)≥0)&&decide ((r.b.size:Int)<=0)&&decide ((r.q:Int)≥1)&&decide ((r.q:Int)<=1099511627776))=true;rw[d (show(r.a.size:Int)≥1 by omega),d (show(r.a.size:Int)<=32 by omega),d (show(r.b.size:Int)≥0 by omega),d (show(r.b.size:Int)<=0 by omega),d (show(r.q:Int)≥1 by omega),d (show(r.q:Int)<=1099511627776 by omega)];rfl
theorem jV {r:C2} {S:Int}:JT ⟨S,r.k,r.a.size,r.b.size,r.q⟩=r.size:=rfl
theorem dH {r:C2} (h:r.ok) {l:Ad} {j n:Nat} (hp:Tf l j r.bytes) (hn:r.size<=n):GO l j n=true/\JT (BS l j)=r.size/\(BS l j).k=r.k/\(BS l j).q=r.q/\Nw l j=r.a/\RP l j=r.b:=by
 have hp':Tf l j (UD (EA r.k r.q r.a r.b) r.k r.a.size r.b.size r.q++(B1 r.a++B1 r.b)):=hp;have hh:=U1 h hp'.left;have h16:16<=r.size:=by unfold C2.size Bu;omega
 have hA:=hp'.right.left;have hB:=hp'.right.right;rw[LJ]at hA hB;rw[C0]at hB;have eK:Nw l j=r.a:=by
  unfold Nw;rw[hh];have:=hA.take;rw[C0]at this;show Fy ((l.drop (j+16)).take r.a.size)=_;rw[this,Lt]
 have eW:RP l j=r.b:=by
  unfold RP;rw[hh];have:=hB.take;rw[C0]at this;show Fy ((l.drop (j+16+r.a.size)).take r.b.size)=_;rw[this,Lt]
 refine⟨?_,by rw[hh];rfl,by rw[hh],by rw[hh],eK,eW⟩;unfold GO;rw[eK,eW,hh,jV];obtain⟨c1,c2⟩:=me h (EA r.k r.q r.a r.b);rw[c1];have e1:(decide (Int.ofNat n < 16))=false:=GP (by show ¬((n:Int) < 16);omega);rw[e1,B0 hn];have e2:Er 0 ((l.drop (j+4)).take (r.size - 4))=EA r.k r.q r.a r.b:=by
  have:=hp.take;rw[r.len]at this;have e:(l.drop (j+4)).take (r.size - 4)=r.bytes.drop 4:=by
   rw[<-this,uW,qX]
  rw[e];unfold EA
  congr 1
 rw[e2];show(!false&&(true&&(!((r.k:Int)==3)&&(true&&((EA r.k r.q r.a r.b==EA r.k r.q r.a r.b)&&DR r.k r.q r.a r.b)))))=true;rw[c2,ny,show DR r.k r.q r.a r.b=true from h];rfl
theorem ic {r:C2} (h:r.ok) {l:Ad} {j n:Nat} (hp:Tf l j (r.bytes.take n)) (hn:n < r.size):GO l j n=false:=by
 unfold GO
 by_cases h16:n < 16
 ·rw[Fp (show Int.ofNat n < 16 by show(n:Int) < 16;omega)];rfl
 ·have hp16:Tf l j (UD (EA r.k r.q r.a r.b) r.k r.a.size r.b.size r.q):=by
   intro t ht;rw[LJ]at ht;have:=hp t (by rw[IP,r.len];omega);rw[this,Yy,HI (by omega)];unfold C2.bytes E3;rw[Y5 (by rw[LJ];exact ht)]
  rw[U1 h hp16,jV];have:Nat.ble r.size n=false:=by
   cases hb:Nat.ble r.size n
   ·rfl
   ·have:=VC hb;omega
  rw[this];cases decide (Int.ofNat n < 16)<;>cases Ex _<;>simp
def B3 (rs:List C2):Ad:=rs.flatMap C2.bytes
def Ou (s:Int) (off:Nat) (r:C2):NQ:=((r.q:Int),r.a,(r.k:Int)==2,s,(off:Int),(r.size:Int))
def D4 (s:Int):Nat->List C2->Aw
 | _,[]=>[]
 | off,r::rs=>Ou s off r::D4 s (off+r.size) rs
def Q4 (n:Nat):Nat->List C2->List C2
 | _,[]=>[]
 | off,r::rs=>if off+r.size<=n then r::Q4 n (off+r.size) rs else []
theorem C2.Xo (r:C2):16<=r.size:=by unfold C2.size Bu;omega
theorem Ss {l:Ad} {s:Int}:∀(rs:List C2) (f off:Nat),(∀r∈rs,r.ok)->off<=l.length->l.length - off<=f->l.length<=off+(B3 rs).length->Tf l off ((B3 rs).take (l.length - off))->GS l 0 l.length s f off=D4 s off (Q4 l.length off rs)
 | [],f,off,_,h1,_,h3,_=>by
  have h3:l.length<=off+0:=h3;have e:l.length - off=0:=by omega
  cases f with
  | zero=>rfl
  | succ f=>
   unfold GS;have:GO l (0+off) (l.length - off)=false:=by
    rw[e];unfold GO;rfl
   rw[this];rfl
 | r::rs,f,off,hok,h1,h2,h3,hp=>by
  have hr:=hok r (bB ..);have h16:=r.Xo;have hB:B3 (r::rs)=r.bytes++B3 rs:=rfl;rw[hB]at h3 hp;rw[Fu,r.len]at h3;cases f with
  | zero=>
   have e:off=l.length:=by omega
   unfold Q4;rw[E7 (by omega)];rfl
  | succ f=>
   unfold GS Q4;rw[Hq]
   by_cases hf:off+r.size<=l.length
   ·have hw:Tf l off r.bytes:=by
     intro t ht;have:=hp t (by rw[IP,Fu];rw[r.len]at ht ⊢;omega);rw[this,Yy,HI (by rw[r.len]at ht;omega),Y5 ht]
    obtain⟨c1,c2,c3,c4,c5,c6⟩:=dH hr hw (show r.size<=l.length - off by omega);rw[c1,Al,HI hf];have ih:=Ss (l:=l) (s:=s) rs f (off+r.size) (fun x hx=>hok x (ZH _ hx)) hf (by omega) (by omega) (by
     intro t ht;rw[IP]at ht;have:=hp (r.size+t) (by rw[IP,Fu,r.len];omega);rw[Yy,HI (by omega),WO (by rw[r.len];omega),r.len,sQ]at this;rw[XY,this,Yy,HI (by omega)])
    rw[c2,ih];show TL l 0 s off::_=Ou s off r::_
    congr 1
    unfold TL Ou;rw[Hq,c3,c4,c5,c6];rfl
   ·have hpt:Tf l off (r.bytes.take (l.length - off)):=by
     rw[TS (by rw[r.len];omega)]at hp;exact hp
    rw[ic hr hpt (by omega),E7 hf];rfl
theorem aU {n:Nat}:∀(rs:List C2) (off:Nat),off+(B3 rs).length<=n->Q4 n off rs=rs
 | [],_,_=>rfl
 | r::rs,off,h=>by
  have hB:B3 (r::rs)=r.bytes++B3 rs:=rfl;rw[hB,Fu,r.len]at h;unfold Q4;rw[HI (by omega),aU rs (off+r.size) (by omega)]
theorem bG {n:Nat}:∀(rs:List C2) (off:Nat),Q4 n off rs <+: rs
 | [],_=>List.prefix_refl _
 | r::rs,off=>by
  unfold Q4;split
  ·obtain⟨t,ht⟩:=bG (n:=n) rs (off+r.size);exact⟨t,by rw[kE,ht]⟩
  ·exact List.nil_prefix
structure lh (x:Cm) (used:Int->Prop) (c:Nat):Prop where
 key:∀p∈x.keys,∀e∈p.2,used e.1
 kl:x.keys.length<=c
 ll:∀p∈x.keys,p.2.length<=c
structure xe (ls:Aw) (o:Int):Prop where
 all:∀e∈ls,0<=e.2.2.2.2.1/\1<=e.2.2.2.2.2/\e.2.2.2.2.1+e.2.2.2.2.2<=o
theorem WT {l:Aw} {m:Nat} (h:m < l.length):DI l m∈l:=by
 unfold DI;rw[F5,FL h];exact vP h
theorem ab {ls:Aw} {o:Int} (h:xe ls o):J7 ls o=ls.length:=by
 show Xc (fun m=>decide (G8 ls o m < 0)) ls.length 0 ls.length=ls.length;refine ZP _ ls.length ls.length 0 ls.length (by omega) (PM _) (CC _) fun m _ hm=>⟨fun _=>hm,fun _=>Fp ?_⟩
 obtain⟨h0,h1,h2⟩:=h.all _ (WT hm);unfold G8 LP;have hlt:(DI ls m).2.2.2.2.1 < o:=by omega
 simp[hlt]
theorem nu {ls:Aw} {o z:Int} (h:xe ls o) (ho:o<=1000000):S4 ls o z=false:=by
 unfold S4;rw[ab h];unfold Z7;rw[GP (iD ls.length),ABb,ABb,j4,ABl]
 by_cases hl:(ls.length:Int) > 0
 ·obtain⟨h0,h1,h2⟩:=h.all _ (WT (l:=ls) (m:=ls.length - 1) (by omega));rw[wrap64 (by omega) (by omega),GP (show ¬(DI ls (ls.length - 1)).2.2.2.2.1+(DI ls (ls.length - 1)).2.2.2.2.2 > o from by omega),Bool.and_false]
 ·rw[GP hl,ABb]
theorem QC {q:Int} {a:As} {d:Bool} {s z:Int}:∀(l:Aw) (hv:Bool),(∀e∈l,e.1≠q)->Ke q a d s z l hv=some hv
 | [],_,_=>rfl
 | e::r,hv,h=>by
  have h1:(e.1==q)=false:=fH.2 (h e (bB ..));unfold Ke;have hb:Qk q a d z e=false:=by unfold Qk;rw[h1];rfl
  have hs:PB q s e=false:=by unfold PB;rw[h1];rfl
  rw[hb,hs,NJ,ABl];exact QC r hv fun x hx=>h x (ZH _ hx)
theorem lH {x:Cm} {used:Int->Prop} {c:Nat} (h:lh x used c) (a:As):(∀e∈Mz x a,used e.1)/\(Mz x a).length<=c:=by
 cases hh:Ie x a
 ·have:Mz x a=[]:=by unfold Mz;rw[hh];rfl
  rw[this];exact⟨fun e he=>(by cases he),PM _⟩
 ·obtain⟨k,hk,_⟩:=jN hh;have hm:=VE hk;exact⟨fun e he=>h.key _ hm e he,h.ll _ hm⟩
theorem jj {l:Aw} {i:Nat} {e y:NQ} (h:y∈HF l i e):y∈l∨y=e:=by
 unfold HF at h;rcases List.mem_append.1 h with h | h
 ·exact .inl (oV h)
 ·rcases List.mem_cons.1 h with h | h
  ·exact .inr h
  ·exact .inl (jW h)
theorem sE {x:Cm} {used:Int->Prop} {c s:Nat} {q:Int} {a:As} {d:Bool} {o z:Int} (hx:lh x used c) (hc:c < 70000) (hs:s < x.AR.length) (hE:Mt q a d o z) (hq:¬used q) (hb:xe (C7 x s) o) (hsl:(C7 x s).length<=c):
 kF x (q,a,d,(s:Int),o,z)/\(fC x (q,a,d,(s:Int),o,z)).AR=x.AR.set s (C7 x s++[(q,a,d,(s:Int),o,z)])/\lh (fC x (q,a,d,(s:Int),o,z)) (fun t=>used t∨t=q) (c+1):=by
 obtain⟨u1,u2⟩:=lH hx a;have o1:o<=1000000:=by have:=hE.oz;have:=hE.z0;omega
 have hok:Lr x q a d s o z:=⟨hE,hs,by have:=hx.kl;omega,by omega,by omega⟩;have hne:∀e∈Mz x a,e.1≠q:=fun e he h=>hq (by rw[<-h];exact u1 e he)
 have hres:El x q a d s o z=0:=by
  unfold El ao;rw[QC _ _ hne,nu hb o1];rfl
 have hb0:(El x q a d s o z==0)=true:=by rw[hres];rfl
 have hX:fC x (q,a,d,(s:Int),o,z)=⟨Lq x q a d s o z,x.AR.set s (HF (C7 x s) (J7 (C7 x s) o) (q,a,d,(s:Int),o,z))⟩:=by
  show JO x q a d (Int.toNat (s:Int)) o z=_;rw[HR];unfold JO;rw[hb0,Al]
 refine⟨⟨⟨by rw[HR],by rw[HR];exact hok⟩,by rw[HR];exact hres⟩,?_,?_⟩
 ·rw[hX];show x.AR.set s _=_;rw[ab hb];unfold HF;rw[cl,AB5]
 ·rw[hX];cases hh:Ie x a
  ·have hk:Lq x q a d s o z=x.keys.take (Ey x a)++((a,[(q,a,d,(s:Int),o,z)])::x.keys.drop (Ey x a)):=by unfold Lq;rw[hh];rfl
   refine⟨fun p hp e he=>?_,?_,fun p hp=>?_⟩
   ·rw[hk]at hp;rcases List.mem_append.1 hp with hp | hp
    ·exact .inl (hx.key p (oV hp) e he)
    ·rcases List.mem_cons.1 hp with hp | hp
     ·subst hp;rw[I6]at he;rw[he];exact .inr rfl
     ·exact .inl (hx.key p (jW hp) e he)
   ·show(Lq x q a d s o z).length<=_;have:=hx.kl;rw[hk,Fu,IP,ZC,MQ];omega
   ·rw[hk]at hp;rcases List.mem_append.1 hp with hp | hp
    ·have:=hx.ll p (oV hp);omega
    ·rcases List.mem_cons.1 hp with hp | hp
     ·subst hp;show 1<=c+1;omega
     ·have:=hx.ll p (jW hp);omega
  ·have hk:Lq x q a d s o z=x.keys.set (Ey x a) ((x.keys.getD (Ey x a) (a,[])).1,HF (Mz x a) (PH (Mz x a).length (E5 (Mz x a) q s)) (q,a,d,(s:Int),o,z)):=by unfold Lq;rw[hh];rfl
   refine⟨fun p hp e he=>?_,?_,fun p hp=>?_⟩
   ·rw[hk]at hp;rcases q7 hp with hp | hp
    ·exact .inl (hx.key p hp e he)
    ·subst hp;rcases jj he with he | he
     ·exact .inl (u1 e he)
     ·rw[he];exact .inr rfl
   ·show(Lq x q a d s o z).length<=_;have:=hx.kl;rw[hk,Ly];omega
   ·rw[hk]at hp;rcases q7 hp with hp | hp
    ·have:=hx.ll p hp;omega
    ·subst hp;show(HF _ _ _).length<=_;rw[NP aj];omega
theorem mW {r:C2} (h:r.ok):I1 r.a=0:=by
 unfold C2.ok DR at h;simp only[DL,ABZ]at h;exact h.1.2
theorem dA {r:C2} (h:r.ok) {off:Nat} (hb:off+r.size<=8192):Mt r.q r.a ((r.k:Int)==2) off r.size:=by
 have hF:=JH h;have b1:=hF.b1;have a1:=hF.a1;have hsz:r.size=16+r.a.size+r.b.size:=rfl;refine⟨mW h,hF.q0,hF.q1,WQ _,by omega,?_,by omega,by omega⟩;rcases hF.hk with hk | ⟨hk,hb0⟩
 ·right;rw[hk];rfl
 ·left;omega
theorem fA {x:Cm} {s:Nat} (hs:s < x.AR.length) (l:Aw) (_K:List (As × Aw)) (y:Cm) (hy:y.AR=x.AR.set s l):C7 y s=l:=by
 unfold C7;rw[hy];exact Dp hs
theorem bT {s:Nat}:∀(rs:List C2) (x:Cm) (used:Int->Prop) (c off:Nat),lh x used c->c+rs.length < 70000->s < x.AR.length->(∀r∈rs,r.ok)->off+(B3 rs).length<=8192->(rs.map C2.q).Nodup->(∀r∈rs,¬used (r.q:Int))->xe (C7 x s) off->(C7 x s).length<=c->
 Zq x (D4 s off rs)/\(Nh x (D4 s off rs)).AR=x.AR.set s (C7 x s++D4 s off rs)/\lh (Nh x (D4 s off rs)) (fun t=>used t∨∃r∈rs,t=(r.q:Int)) (c+rs.length)
 | [],x,used,c,off,hx,_,hs,_,_,_,_,_,_=>by
  refine⟨trivial,?_,?_⟩
  ·show x.AR=x.AR.set s (C7 x s++[]);rw[eA,KU (Jc hs)]
  ·exact⟨fun p hp e he=> .inl (hx.key p hp e he),hx.kl,hx.ll⟩
 | r::rs,x,used,c,off,hx,hc,hs,hok,hoff,hnd,hun,hbe,hsl=>by
  have hB:B3 (r::rs)=r.bytes++B3 rs:=rfl;rw[hB,Fu,r.len]at hoff;rw[ZC]at hc;have hr:=hok r (bB ..);have hnd:=List.nodup_cons.1 (show(r.q::rs.map C2.q).Nodup from hnd);obtain⟨h1,h2,h3⟩:=sE hx (by omega) hs (dA hr (by omega)) (hun r (bB ..)) hbe hsl;have e:D4 s off (r::rs)=((r.q:Int),r.a,(r.k:Int)==2,(s:Int),(off:Int),(r.size:Int))::D4 s (off+r.size) rs:=rfl;generalize hen:((r.q:Int),r.a,(r.k:Int)==2,(s:Int),(off:Int),(r.size:Int))=en at h1 h2 h3 e;have hsl2:C7 (fC x en) s=C7 x s++[en]:=fA hs _ [] _ h2;have hlen:(fC x en).AR.length=x.AR.length:=by rw[h2,Ly]
  obtain⟨k1,k2,k3⟩:=bT rs (fC x en) (fun t=>used t∨t=(r.q:Int)) (c+1) (off+r.size) h3 (by omega) (by rw[hlen];exact hs) (fun y hy=>hok y (ZH _ hy)) (by omega) hnd.2 (fun y hy hu=>by
   rcases hu with hu | hu
   ·exact hun y (ZH _ hy) hu
   ·exact hnd.1 (List.mem_map.2 ⟨y,hy,by omega⟩)) (by
   rw[hsl2];refine⟨fun y hy=>?_⟩;rcases List.mem_append.1 hy with hy | hy
   ·obtain⟨q1,q2,q3⟩:=hbe.all y hy;exact⟨q1,q2,by omega⟩
   ·rw[I6]at hy;rw[hy,<-hen];have:=r.Xo;exact⟨WQ _,by show(1:Int)<=(r.size:Int);omega,by show(off:Int)+(r.size:Int)<=_;omega⟩) (by rw[hsl2,Fu];show _+1<=_;omega)
  rw[e];refine⟨⟨h1,k1⟩,?_,?_⟩
  ·show(Nh (fC x en) (D4 s (off+r.size) rs)).AR=_;rw[k2,h2,hsl2,rk,Sa];rfl
  ·refine⟨fun p hp y hy=>?_,?_,fun p hp=>?_⟩
   ·rcases k3.key p hp y hy with(h | h) | ⟨r2,h4,h5⟩
    ·exact .inl h
    ·exact .inr ⟨r,bB ..,h⟩
    ·exact .inr ⟨r2,ZH _ h4,h5⟩
   ·have:=k3.kl;show(Nh (fC x en) (D4 s (off+r.size) rs)).keys.length<=_;rw[ZC];omega
   ·have:=k3.ll p hp;rw[ZC];omega
structure je (d:Ab) (rs:Nat->List C2):Prop where
 sl:d.AR=5
 dn:d.down=false
 len:d.BB.length=7
 pre:∀s:Nat,s < 5->∃n,n<=(B3 (rs s)).length/\(CV d (s:Nat)).b=(B3 (rs s)).take n
 sz:∀s:Nat,s < 5->(B3 (rs s)).length<=600
 ok:∀s:Nat,s < 5->∀r∈rs s,r.ok
 nd:∀s:Nat,s < 5->((rs s).map C2.q).Nodup
 DG:∀s s':Nat,s < 5->s' < 5->s≠s'->∀r∈rs s,∀r'∈rs s',r.q≠r'.q
 qk:∀s:Nat,s < 5->(rs s).length<=1000
theorem Fe {L:List AS} {i n:Nat} (h:L.length=n) (hi:i < n):Ba L (i:Nat)=false:=by
 unfold Ba;rw[GP (by omega),GP (by omega)];rfl
theorem Nt (d:Ab) (i:Int):Ed d i 0 (A8 d i)=(CV d i).b:=by
 unfold Ed Us A8;rw[HR];show List.take _ (List.drop 0 _)=_;rw[O9,cl]
theorem Rv {d:Ab} {i:Nat} (hd:d.down=false) (hb:Ba d.BB (i:Nat)=false):Kj d (i:Nat) 0 (A8 d (i:Nat))=true:=by
 unfold Kj;rw[hd,hb];unfold Ij A8;rw[GP (by omega),GP (by omega),GP (by omega),GP (by omega)];rfl
section
variable {d:Ab} {rs:Nat->List C2}
def HM (d:Ab) (rs:Nat->List C2) (s:Nat):List C2:=Q4 (CV d (s:Nat)).b.length 0 (rs s)
theorem jL (d:Ab) (i:Int):(A8 d i==0)=decide ((CV d i).b.length=0):=by
 unfold A8;cases h:decide ((CV d i).b.length=0)
 ·have:=vo h;exact fH.2 (by omega)
 ·have:=fX h;rw[this];rfl
theorem lC (l:List C2):Q4 0 0 l=[]:=by
 cases l with
 | nil=>rfl
 | cons r l=>
  have:=r.Xo;unfold Q4;rw[E7 (by omega)]
theorem eB (h:je d rs) {s:Nat} (hs:s < 5):Gp d (s:Nat)=D4 (s:Nat) 0 (HM d rs s):=by
 obtain⟨n,hn,hb⟩:=h.pre s hs;unfold Gp HM;rw[jL];cases hz:decide ((CV d (s:Nat)).b.length=0)
 ·rw[NJ];unfold T8;rw[Nt];generalize (CV d (s:Nat)).b=l at hb;have hl:l.length=n:=by rw[hb,IP];omega
  refine Ss (rs s) _ 0 (h.ok s hs) (PM _) (by omega) (by omega) ?_;intro t ht;rw[Hq,vI,hl,<-hb]
 ·have:=fX hz;rw[Al,this,lC];rfl
theorem lh.imp {x:Cm} {u u':Int->Prop} {c:Nat} (h:lh x u c) (hu:∀t,u t->u' t):lh x u' c:=⟨fun p hp e he=>hu _ (h.key p hp e he),h.kl,h.ll⟩
theorem aO (h:je d rs):∀(k i:Nat) (x:Cm) (c:Nat),k+i=5->lh x (fun t=>∃s,s < i/\∃r∈rs s,t=(r.q:Int)) c->c<=1000 * i->x.AR.length=5->(∀s,i<=s->s < 5->C7 x s=[])->
 Zz d k i x/\(Mh d k i x).AR.length=5/\(∀s,s < i->C7 (Mh d k i x) s=C7 x s)/\∀s,i<=s->s < 5->C7 (Mh d k i x) s=D4 (s:Nat) 0 (HM d rs s)
 | 0,i,x,c,hk,_,_,hl,_=>⟨trivial,hl,fun _ _=>rfl,fun s h1 h2=>absurd h1 (by omega)⟩
 | k+1,i,x,c,hk,hx,hc,hl,he=>by
  have hi:i < 5:=by omega
  have hpre:HM d rs i <+: rs i:=bG (rs i) 0;have hsub:∀r∈HM d rs i,r∈rs i:=fun r hr=>hpre.subset hr
  have hlen:=hpre.length_le;have hcn:=h.qk i hi;have hemp:=he i (CC _) hi;have hsz:(B3 (HM d rs i)).length<=600:=by
   obtain⟨t,ht⟩:=hpre;have:B3 (rs i)=B3 (HM d rs i)++B3 t:=by rw[<-ht];unfold B3;rw[ABr]
   have:=congrArg List.length this;rw[Fu]at this;have:=h.sz i hi;omega
  obtain⟨a1,a2,a3⟩:=bT (s:=i) (HM d rs i) x _ c 0 hx (by omega) (by omega) (fun r hr=>h.ok i hi r (hsub r hr)) (by omega) (List.Nodup.sublist (hpre.sublist.map _) (h.nd i hi)) (fun r hr hu=>by
   obtain⟨s,hs,r',hr',e⟩:=hu;exact h.DG i s hi (by omega) (by omega) r (hsub r hr) r' hr' (by omega)) (by rw[hemp];exact⟨fun e he=>(by cases he)⟩) (by rw[hemp];exact PM _)
  rw[hemp,Yz]at a2;have hse:=eB h hi;have hl2:(Nh x (Gp d (i:Nat))).AR.length=5:=by rw[hse,a2,Ly];exact hl
  have hne:∀s,s≠i->C7 (Nh x (Gp d (i:Nat))) s=C7 x s:=fun s hs=>by
   unfold C7;rw[hse,a2,F5,F5,JP,E7 (Zn hs)]
  obtain⟨b1,b2,b3,b4⟩:=aO h k (i+1) (Nh x (Gp d (i:Nat))) (c+(HM d rs i).length) (by omega) (by
   rw[hse];refine a3.imp fun t ht=>?_
   rcases ht with⟨s,hs,r,hr,e⟩ | ⟨r,hr,e⟩
   ·exact⟨s,by omega,r,hr,e⟩
   ·exact⟨i,by omega,r,hsub r hr,e⟩) (by omega) hl2 (fun s h1 h2=>by rw[hne s (by omega)];exact he s (by omega) h2)
  have hbad:=Fe h.len (show i < 7 by omega);refine⟨⟨⟨h.dn,hbad,fun _=>⟨Rv h.dn hbad,?_⟩⟩,by rw[hse];exact a1,b1⟩,b2,fun s hs=>?_,fun s h1 h2=>?_⟩
  ·rw[Nt];obtain⟨n,hn,hb⟩:=h.pre i hi;have:=h.sz i hi;exact⟨by omega,by rw[hb,IP];omega,by omega,by omega⟩
  ·rw[<-hne s (by omega)];exact b3 s (by omega)
  ·by_cases e:s=i
   ·subst e;show C7 (Mh d k (s+1) _) s=_;rw[b3 s (by omega)];unfold C7;rw[hse,a2];exact Dp (by omega)
   ·exact b4 s (by omega) h2
theorem aG (h:je d rs):N9 d/\(EG d).AR.length=5/\∀s,s < 5->C7 (EG d) s=D4 (s:Nat) 0 (HM d rs s):=by
 have h5:d.AR.toNat=5:=by rw[h.sl];rfl
 have h0:∀s,0<=s->s < 5->C7 (aN 5) s=[]:=fun s _ hs=>by
  unfold C7 aN;rw[F5,pG];split<;>rfl
 obtain⟨b1,b2,_,b4⟩:=aO h 5 0 (aN 5) 0 rfl ⟨fun p hp=>(by cases hp),CC _,fun p hp=>(by cases hp)⟩ (by omega) (by unfold aN;simp) h0;refine⟨⟨h.dn,by rw[h.sl];decide,by rw[h.sl];decide,by rw[h5];exact b1⟩,?_,fun s hs=>?_⟩
 ·unfold EG;rw[h5];exact b2
 ·unfold EG;rw[h5];exact b4 s (PM _) hs
theorem nz (h:je d rs):kR d:=by
 refine⟨h.dn,by rw[h.sl];decide,by rw[h.sl];decide,fun i hi=>?_⟩;rw[h.sl]at hi;have hi:i < 5:=by omega
 have hbad:=Fe h.len (show i < 7 by omega);refine⟨hbad,fun _=>Rv h.dn hbad,?_⟩;rw[Nt];obtain⟨n,hn,hb⟩:=h.pre i hi;have:=h.sz i hi;rw[hb,IP];omega
end
structure zV (tb:Ad) (T:Nat->Nat):Prop where
 at_:∀i,i < 256->tb.getD (0+i) (EK.BL kW)=(T i:Nat)
 lt:∀i,i < 256->T i < 4294967296
 inj:∀i j,i < 256->j < 256->T i / 16777216=T j / 16777216->i=j
end Go.AD
namespace Go.AD
open Go.Proofs
end Go.AD
namespace Go.AD
open Go.Proofs
def vd (l:Ad):Prop:=∀x∈l,∃n:Nat,x=(n:Int)/\n < 256
theorem vd.sub {l l0:Ad} (h:vd l0) (hs:∀x∈l,x∈l0):vd l:=fun x hx=>h x (hs x hx)
end Go.AD
namespace Go.AD
open Go.Proofs
end Go.AD
namespace Go.AD
open Go.Proofs
def QI (p:B2):Nat:=bif p.2.2.2.1 then 2 else 1
theorem Ob (p:B2):M1 p=(QI p:Nat):=by unfold M1 QI;cases p.2.2.2.1<;>rfl
theorem bO (m:Int):I1 (Fq m)=0/\(Fq m).size<=5/\1<=(Fq m).size:=by
 unfold Fq;split
 ·exact⟨by kernel_rfl,by decide,by decide⟩
 ·split
  ·exact⟨by kernel_rfl,by decide,by decide⟩
  ·split
   ·exact⟨by kernel_rfl,by decide,by decide⟩
   ·exact⟨by kernel_rfl,by decide,by decide⟩
theorem S7 {p:B2} (h:Ld p):(LO p).size<=39:=by
 unfold LO;cases p.2.2.2.1
 ·rw[NJ];obtain⟨r0,r1⟩:=MJ (m:=40) h.c0 (by decide);show(ZG p.2.2.1).data.size<=39;unfold ZG Fy;simp only[ABR,cw,IP,MQ,Xu];omega
 ·exact PM _
def LQ (i:Nat) (p:B2):C2:=⟨QI p,i+1,Fq (Int.tmod p.2.1 4),LO p⟩
theorem mg {i:Nat} {p:B2} (h:Ld p) (hi:i < 1000):(LQ i p).ok:=by
 show DR (QI p:Nat) ((i+1:Nat):Int) (Fq (Int.tmod p.2.1 4)) (LO p)=true;obtain⟨k1,k2,k3⟩:=bO (Int.tmod p.2.1 4);have hv:=S7 h;have e1:(((QI p:Nat):Int)==1||(((QI p:Nat):Int)==2&&Jf (LO p)))=true:=by
  unfold QI LO;cases p.2.2.2.1
  ·rfl
  ·unfold Jf;show(false||(true&&((ByteArray.toList { data:=#[] })==(ByteArray.toList { data:=#[] }))))=true;rw[ny];rfl
 have e2:J6 (LO p) 512=0:=by
  unfold J6;rw[GP (by decide),GP (by decide),GP (by show ¬((LO p).size:Int) > 512;omega)];rfl
 unfold DR;rw[e1,k1,e2,GP (by omega),GP (by omega)];rfl
theorem cK {i:Nat} {p:B2} (h:Ld p):(LQ i p).size<=60:=by
 obtain⟨k1,k2,k3⟩:=bO (Int.tmod p.2.1 4);have hv:=S7 h;show 16+(Fq (Int.tmod p.2.1 4)).size+(LO p).size<=60;omega
structure FI (st:PF) (i:Nat) (rs:Nat->List C2) (us:Nat->Nat):Prop where
 sl:st.d.AR=5
 dn:st.d.down=false
 pl:st.d.BJ=none
 len:st.d.BB.length=7
 o0:0<=st.d.ops
 o1:st.d.ops<=2 * i
 im:∀s:Nat,s < 5->CV st.d (s:Nat)=⟨600,((B3 ((rs s).take (us s))).length:Nat),B3 (rs s)⟩
 wA:∀s:Nat,5<=s->s < 7->CV st.d (s:Nat)=⟨64,0,[]⟩
 L:∀s:Nat,s < 5->st.L s=D4 (s:Nat) 0 (rs s)
 u:∀s:Nat,s < 5->st.u s=(us s:Nat)/\us s<=(rs s).length
 sz:∀s:Nat,s < 5->(B3 (rs s)).length<=600
 ok:∀s:Nat,s < 5->∀r∈rs s,r.ok
 nd:∀s:Nat,s < 5->((rs s).map C2.q).Nodup
 DG:∀s s':Nat,s < 5->s' < 5->s≠s'->∀r∈rs s,∀r'∈rs s',r.q≠r'.q
 q:∀s:Nat,s < 5->∀r∈rs s,r.q<=i
 qk:∀s:Nat,s < 5->(rs s).length<=i
theorem LM {d:Ab} {g:AS->AS} {s:Nat} {P:Option BP} {S O:Int} {D:Bool} (hs:s < d.BB.length) (t:Nat):CV ⟨D6 g (s:Nat) d.BB,P,S,O,D⟩ (t:Nat)=if s=t then g (CV d (s:Nat))else CV d (t:Nat):=by
 unfold CV D6;simp only[HR];rw[F5,JP,HI hs];split
 ·rfl
 ·rw[<-F5]
theorem RR (s:Int) (r:C2):∀(rs:List C2) (off:Nat),D4 s off (rs++[r])=D4 s off rs++[Ou s (off+(B3 rs).length) r]
 | [],off=>rfl
 | r0::rs,off=>by
  have hB:B3 (r0::rs)=r0.bytes++B3 rs:=rfl;show Ou s off r0::D4 s (off+r0.size) (rs++[r])=Ou s off r0::(D4 s (off+r0.size) rs++[_]);rw[RR s r rs,hB,Fu,r0.len,XY]
theorem H6 (s:Int):∀(rs:List C2) (off:Nat),(D4 s off rs).length=rs.length
 | [],_=>rfl
 | r::rs,off=>by show(D4 s (off+r.size) rs).length+1=rs.length+1;rw[H6 s rs]
theorem OH (rs:List C2) (r:C2):B3 (rs++[r])=B3 rs++r.bytes:=by
 unfold B3;rw[ABr,AB2,List.flatMap_nil,eA]
theorem Mw {α:Type} (L:Nat->α) (s:Nat) (x:α):GR L s x s=x:=by unfold GR;rw[Va];rfl
theorem PX {α:Type} (L:Nat->α) {s t:Nat} (x:α) (h:t≠s):GR L s x t=L t:=by
 unfold GR;cases hb:Nat.beq t s
 ·rfl
 ·exact absurd (AG hb) h
theorem FI.next {st:PF} {i:Nat} {rs:Nat->List C2} {us:Nat->Nat} (h:FI st i rs us):FI st (i+1) rs us:=
 ⟨h.sl,h.dn,h.pl,h.len,h.o0,by have:=h.o1;omega,h.im,h.wA,h.L,h.u,h.sz,h.ok,h.nd,h.DG,fun s hs r hr=>by have:=h.q s hs r hr;omega,fun s hs=>by have:=h.qk s hs;omega⟩
theorem FI.add {st st':PF} {i s:Nat} {rs:Nat->List C2} {us us':Nat->Nat} (h:FI st i rs us) {r:C2} (hs:s < 5) (hr:r.ok) (hq:r.q=i+1) (hz:(B3 (rs s)).length+r.size<=600)
 (sl:st'.d.AR=5) (dn:st'.d.down=false) (pl:st'.d.BJ=none) (len:st'.d.BB.length=7) (o0:0<=st'.d.ops) (o1:st'.d.ops<=2 * (i+1:Nat))
 (hL:st'.L=GR st.L s (st.L s++[Ou (s:Nat) (B3 (rs s)).length r]))
 (him:CV st'.d (s:Nat)=⟨600,((B3 ((rs s++[r]).take (us' s))).length:Nat),B3 (rs s++[r])⟩) (hne:∀t:Nat,t≠s->CV st'.d (t:Nat)=CV st.d (t:Nat))
 (hu:st'.u s=(us' s:Nat)/\us' s<=(rs s++[r]).length) (hu2:∀t:Nat,t≠s->st'.u t=st.u t/\us' t=us t):FI st' (i+1) (GR rs s (rs s++[r])) us':=by
 have hA:∀t:Nat,t≠s->GR rs s (rs s++[r]) t=rs t:=fun t ht=>PX _ _ ht
 have hB:=Mw rs s (rs s++[r]);refine⟨sl,dn,pl,len,o0,o1,fun t ht=>?_,fun t h1 h2=>?_,fun t ht=>?_,fun t ht=>?_,fun t ht=>?_,fun t ht=>?_,fun t ht=>?_,fun t t' ht ht' hn=>?_,fun t ht=>?_,fun t ht=>?_⟩
 ·by_cases e:t=s
  ·subst e;rw[hB];exact him
  ·rw[hA t e,hne t e,h.im t ht,(hu2 t e).2]
 ·rw[hne t (by omega)];exact h.wA t h1 h2
 ·rw[hL]
  by_cases e:t=s
  ·subst e;rw[hB,Mw,RR,h.L t ht,Hq]
  ·rw[hA t e,PX _ _ e];exact h.L t ht
 ·by_cases e:t=s
  ·subst e;rw[hB];exact hu
  ·rw[hA t e,(hu2 t e).1,(hu2 t e).2];exact h.u t ht
 ·by_cases e:t=s
  ·subst e;rw[hB,OH,Fu,r.len];exact hz
  ·rw[hA t e];exact h.sz t ht
 ·by_cases e:t=s
  ·subst e;rw[hB];intro x hx;rcases List.mem_append.1 hx with hx | hx
   ·exact h.ok t ht x hx
   ·rw[I6]at hx;rw[hx];exact hr
  ·rw[hA t e];exact h.ok t ht
 ·by_cases e:t=s
  ·subst e;rw[hB,ABq];refine List.nodup_append.2 ⟨h.nd t ht,List.nodup_cons.2 ⟨Yk,Zk⟩,fun a ha b hb=>?_⟩;obtain⟨x,hx,rfl⟩:=List.mem_map.1 ha;have hb:b=r.q:=by simpa using hb
   have:=h.q t ht x hx;omega
  ·rw[hA t e];exact h.nd t ht
 ·have hm:∀t,t < 5->∀x∈GR rs s (rs s++[r]) t,x∈rs t∨(t=s/\x.q=i+1):=fun t ht x hx=>by
   by_cases e:t=s
   ·subst e;rw[hB]at hx;rcases List.mem_append.1 hx with hx | hx
    ·exact .inl hx
    ·rw[I6]at hx;rw[hx];exact .inr ⟨rfl,hq⟩
   ·rw[hA t e]at hx;exact .inl hx
  intro x hx y hy;rcases hm t ht x hx with h1 | ⟨h1,h1'⟩
  ·rcases hm t' ht' y hy with h2 | ⟨h2,h2'⟩
   ·exact h.DG t t' ht ht' hn x h1 y h2
   ·have:=h.q t ht x h1;omega
  ·rcases hm t' ht' y hy with h2 | ⟨h2,h2'⟩
   ·have:=h.q t' ht' y h2;omega
   ·omega
 ·by_cases e:t=s
  ·subst e;rw[hB];intro x hx;rcases List.mem_append.1 hx with hx | hx
   ·have:=h.q t ht x hx;omega
   ·rw[I6]at hx;rw[hx];omega
  ·rw[hA t e];intro x hx;have:=h.q t ht x hx;omega
 ·by_cases e:t=s
  ·subst e;rw[hB,Fu];have:=h.qk t ht;show _+1<=_;omega
  ·rw[hA t e];have:=h.qk t ht;omega
theorem Te {d:Ab} {s:Nat} {l:Ad} (hd:d.down=false) (hp:d.BJ=none) (hl:d.BB.length=7) (hs:s < 7) (hr:(l.length:Int)<=Gw d (s:Nat)):DX d (s:Nat) l=(0,⟨D6 (fun m=>FP m l) (s:Nat) d.BB,none,d.AR,J3 d.ops,false⟩):=by
 rw[NX hd (Fe hl hs) (by omega)];unfold MZ;rw[hp,hd]
theorem bX {d:Ab} {s:Nat} {l:Ad} (hd:d.down=false) (hl:d.BB.length=7) (hs:s < 7) (hr:¬(l.length:Int)<=Gw d (s:Nat)):DX d (s:Nat) l=(4,d):=MD hd (Fe hl hs) (by omega)
theorem WN {d:Ab} {s:Nat} (hd:d.down=false) (hp:d.BJ=none) (hl:d.BB.length=7) (hs:s < 7):De d (s:Nat)=(0,⟨D6 Cn (s:Nat) d.BB,none,d.AR,J3 d.ops,false⟩):=by
 unfold De;rw[NK hd (Fe hl hs)];unfold MZ;rw[hp,hd]
theorem P1 {o:Int} (h0:0<=o) (h1:o<=1000000):J3 o=o+1:=wrap64 (by omega) (by omega)
theorem nS {st:PF} {i:Nat} {rs:Nat->List C2} {us:Nat->Nat} (h:FI st i rs us) (hi:i < 1000) {p:B2} (hp:Ld p):VB st i p/\∃rs' us',FI (QP st i p) (i+1) rs' us':=by
 have hs:=bD hp;have hsz:=cK (i:=i) hp;have hrok:=mg hp hi;have hb:(E3 (M1 p) ((i+1:Nat):Int) (Fq (Int.tmod p.2.1 4)) (LO p))=(LQ i p).bytes:=by rw[Ob];rfl
 have hlen:(LQ i p).bytes.length=(LQ i p).size:=(LQ i p).len;have him:=h.im (DZ p) hs;have hdl:A8 st.d ((DZ p:Nat):Int)=((B3 (rs (DZ p))).length:Nat):=by unfold A8;rw[him]
 have hroom:Gw st.d ((DZ p:Nat):Int)=600 - ((B3 (rs (DZ p))).length:Nat):=by
  have e:Gw st.d ((DZ p:Nat):Int)=(CV st.d ((DZ p:Nat):Int)).size - (CV st.d ((DZ p:Nat):Int)).b.length:=rfl;rw[e,him]
 have hszs:=h.sz (DZ p) hs;have o0:=h.o0;have o1:=h.o1;have hcnt:=h.qk (DZ p) hs;have hLl:(st.L (DZ p)).length=(rs (DZ p)).length:=by rw[h.L _ hs,H6]
 have hrec:DR (M1 p) ((i+1:Nat):Int) (Fq (Int.tmod p.2.1 4)) (LO p)=true:=by rw[Ob];exact hrok
 have hrent:L6 (M1 p) ((i+1:Nat):Int) (Fq (Int.tmod p.2.1 4)) (LO p) ((DZ p:Nat):Int) (A8 st.d ((DZ p:Nat):Int))=true:=by
  unfold L6;rw[hrec,hdl,GP (by omega),GP (by omega),GP (by omega),GP (by omega)];rfl
 have hbad:=Fe h.len (show DZ p < 7 by omega);have ON:((((i+1:Nat):Int)),Fq (Int.tmod p.2.1 4),M1 p==2,((DZ p:Nat):Int),A8 st.d ((DZ p:Nat):Int),((Bu (Fq (Int.tmod p.2.1 4)) (LO p):Nat):Int))=Ou ((DZ p:Nat):Int) (B3 (rs (DZ p))).length (LQ i p):=by
  rw[hdl,Ob];rfl
 by_cases hr:(((LQ i p).bytes.length:Nat):Int)<=Gw st.d ((DZ p:Nat):Int)
 ·have hz:(B3 (rs (DZ p))).length+(LQ i p).size<=600:=by rw[hroom,hlen]at hr;omega
  have hap:=Te h.dn h.pl h.len (show DZ p < 7 by omega) hr;have hw:=P1 o0 (by omega);have hdl2:(D6 (fun m=>FP m (LQ i p).bytes) ((DZ p:Nat):Int) st.d.BB).length=7:=by rw[Gl];exact h.len
  have hsy:=WN (d:=⟨D6 (fun m=>FP m (LQ i p).bytes) ((DZ p:Nat):Int) st.d.BB,none,st.d.AR,J3 st.d.ops,false⟩) rfl rfl hdl2 (show DZ p < 7 by omega);refine⟨⟨hp,hrec,h.dn,hbad,hrent,fun _ _=>by rw[hb,hap,hsy],by omega⟩,?_⟩;unfold QP EF;rw[hb,hap];show ∃rs' us',FI (bif p.2.2.2.2 then _ else _) (i+1) rs' us'
  have hget:∀t:Nat,CV ⟨D6 (fun m=>FP m (LQ i p).bytes) ((DZ p:Nat):Int) st.d.BB,none,st.d.AR,J3 st.d.ops,false⟩ (t:Nat)=if DZ p=t then FP (CV st.d ((DZ p:Nat):Int)) (LQ i p).bytes else CV st.d (t:Nat):=fun t=>LM (by rw[h.len];omega) t
  cases hf:p.2.2.2.2
  ·rw[NJ];refine⟨_,us,h.add hs hrok rfl hz h.sl rfl rfl hdl2 (by show 0<=J3 _;omega) (by show J3 _<=_;omega) (by rw[<-ON]) ?_ (fun t ht=>?_) ?_ fun t _=>⟨rfl,rfl⟩⟩
   ·rw[hget,HI rfl,him,OH];have hu:=(h.u _ hs).2;rw[TS hu];rfl
   ·rw[hget,E7 (Zn ht)]
   ·obtain⟨u1,u2⟩:=h.u _ hs;exact⟨u1,by rw[Fu];omega⟩
  ·rw[Al];have hs2:DZ p < (D6 (fun m=>FP m (LQ i p).bytes) ((DZ p:Nat):Int) st.d.BB).length:=by rw[hdl2];omega
   have hw2:J3 (J3 st.d.ops)=st.d.ops+2:=by rw[hw,P1 (by omega) (by omega)];omega
   refine⟨_,GR us (DZ p) ((rs (DZ p)).length+1),h.add hs hrok rfl hz ?_ ?_ ?_ ?_ ?_ ?_ (by rw[<-ON]) ?_ (fun t ht=>?_) ?_ fun t ht=>⟨PX _ _ ht,PX _ _ ht⟩⟩
   ·show(De _ _).2.AR=_;rw[hsy];exact h.sl
   ·show(De _ _).2.down=_;rw[hsy]
   ·show(De _ _).2.BJ=_;rw[hsy]
   ·show(De _ _).2.BB.length=_;rw[hsy];show(D6 _ _ _).length=7;rw[Gl];exact hdl2
   ·show 0<=(De _ _).2.ops;rw[hsy];show 0<=J3 (J3 _);omega
   ·show(De _ _).2.ops<=_;rw[hsy];show J3 (J3 _)<=_;omega
   ·show CV (De _ _).2 _=_;rw[hsy,Mw];show CV ⟨D6 Cn _ _,_,_,_,_⟩ _=_;have ht:(rs (DZ p)++[LQ i p]).take ((rs (DZ p)).length+1)=rs (DZ p)++[LQ i p]:=Pb (by rw[Fu];exact CC _);rw[LM hs2,HI rfl,hget,HI rfl,him,ht,OH];rfl
   ·show CV (De _ _).2 _=_;rw[hsy];show CV ⟨D6 Cn _ _,_,_,_,_⟩ _=_;rw[LM hs2,E7 (Zn ht),hget,E7 (Zn ht)]
   ·rw[Mw];refine⟨?_,by rw[Fu];exact CC _⟩;show GR st.u (DZ p) _ (DZ p)=_;rw[Mw,Fu,hLl];rfl
 ·have hap:=bX h.dn h.len (show DZ p < 7 by omega) hr;refine⟨⟨hp,hrec,h.dn,hbad,hrent,fun e=>(by rw[hb,hap]at e;cases e),by omega⟩,rs,us,?_⟩;unfold QP EF;rw[hb,hap];exact h.next
theorem ji {l:List B2} (hp:∀i,Ld (PJ l i)):∀(n i:Nat) (st:PF) (rs:Nat->List C2) (us:Nat->Nat),i+n<=1000->FI st i rs us->WI l n i st/\∃rs' us',FI (Eo l n i st) (i+n) rs' us'
 | 0,i,st,rs,us,_,h=>⟨trivial,rs,us,h⟩
 | n+1,i,st,rs,us,hn,h=>by
  obtain⟨h1,rs1,us1,h2⟩:=nS h (by omega) (hp i);obtain⟨h3,rs2,us2,h4⟩:=ji hp n (i+1) _ rs1 us1 (by omega) h2;refine⟨⟨h1,h3⟩,rs2,us2,?_⟩;rw[show i+(n+1)=i+1+n from by omega];exact h4
theorem yG:FI Oo 0 (fun _=>[]) fun _=>0:=by
 refine⟨rfl,rfl,rfl,rfl,ld _,ld _,fun s hs=>?_,fun s h1 h2=>?_,fun s _=>rfl,fun s _=>⟨rfl,CC _⟩,fun s _=>PM _,fun s _ r hr=>(by cases hr),fun s _=>Zk,fun s s' _ _ _ r hr=>(by cases hr),fun s _ r hr=>(by cases hr),fun s _=>PM _⟩
 ·match s,hs with
  | 0,_=>rfl
  | 1,_=>rfl
  | 2,_=>rfl
  | 3,_=>rfl
  | 4,_=>rfl
  | s+5,h=>exact absurd h (by omega)
 ·match s,h1,h2 with
  | 5,_,_=>rfl
  | 6,_,_=>rfl
  | 0,h,_=>exact absurd h (by omega)
  | 1,h,_=>exact absurd h (by omega)
  | 2,h,_=>exact absurd h (by omega)
  | 3,h,_=>exact absurd h (by omega)
  | 4,h,_=>exact absurd h (by omega)
  | s+7,_,h=>exact absurd h (by omega)
structure AAN (d:Ab) (fs:Nat->List C2):Prop where
 sl:d.AR=5
 dn:d.down=false
 len:d.BB.length=7
 b:∀s:Nat,s < 5->(CV d (s:Nat)).b.length<=700
 es:∀s:Nat,s < 5->Gp d (s:Nat)=D4 (s:Nat) 0 (fs s)
 sz:∀s:Nat,s < 5->(B3 (fs s)).length<=600
 ok:∀s:Nat,s < 5->∀r∈fs s,r.ok
 nd:∀s:Nat,s < 5->((fs s).map C2.q).Nodup
 DG:∀s s':Nat,s < 5->s' < 5->s≠s'->∀r∈fs s,∀r'∈fs s',r.q≠r'.q
 qk:∀s:Nat,s < 5->(fs s).length<=1000
section
variable {d:Ab} {fs:Nat->List C2}
end
theorem Sw (s:Int):∀(a b:List C2) (off:Nat),D4 s off (a++b)=D4 s off a++D4 s (off+(B3 a).length) b
 | [],b,off=>rfl
 | r::a,b,off=>by
  have hB:B3 (r::a)=r.bytes++B3 a:=rfl;show Ou s off r::D4 s (off+r.size) (a++b)=Ou s off r::(D4 s (off+r.size) a++_);rw[Sw s a b,hB,Fu,r.len,XY]
theorem gA (r:C2) (rs:List C2):B3 (r::rs)=r.bytes++B3 rs:=rfl
theorem zt {n:Nat}:∀(rs:List C2) (off j:Nat),off+(B3 (rs.take j)).length<=n->j<=rs.length->j<=(Q4 n off rs).length
 | [],_,j,_,h=>h
 | r::rs,off,0,_,_=>PM _
 | r::rs,off,j+1,h,hj=>by
  rw[ABV,gA,Fu,r.len]at h;rw[ZC]at hj;have:=zt (n:=n) rs (off+r.size) j (by omega) (by omega);unfold Q4;rw[HI (by omega),ZC];omega
theorem zh {s:Int} {n:Nat}:∀(rs:List C2) (off:Nat),∀e∈D4 s off (Q4 n off rs),0<=e.2.2.2.2.1+e.2.2.2.2.2/\e.2.2.2.2.1+e.2.2.2.2.2<=(n:Int)
 | [],_,e,he=>by cases he
 | r::rs,off,e,he=>by
  unfold Q4 at he;split at he
  ·rename_i h;rcases List.mem_cons.1 he with rfl | he
   ·exact⟨by show(0:Int)<=(off:Int)+(r.size:Int);omega,by show(off:Int)+(r.size:Int)<=n;omega⟩
   ·exact zh rs (off+r.size) e he
  ·cases he
theorem zK {s:Int} {n:Nat}:∀(rs:List C2) (off:Nat),(Q4 n off rs).length < rs.length->(n:Int) < (DI (D4 s off rs) (Q4 n off rs).length).2.2.2.2.1+(DI (D4 s off rs) (Q4 n off rs).length).2.2.2.2.2/\(DI (D4 s off rs) (Q4 n off rs).length).2.2.2.2.1+(DI (D4 s off rs) (Q4 n off rs).length).2.2.2.2.2<=((off+(B3 rs).length:Nat):Int)
 | [],_,h=>absurd h (iD _)
 | r::rs,off,h=>by
  rw[gA,Fu,r.len];unfold Q4 at h ⊢;split
  ·rename_i h1;rw[HI h1,ZC,ZC]at h;obtain⟨a,b⟩:=zK (s:=s) (n:=n) rs (off+r.size) (by omega);have e:DI (D4 s off (r::rs)) (r::Q4 n (off+r.size) rs).length=DI (D4 s (off+r.size) rs) (Q4 n (off+r.size) rs).length:=rfl;rw[e];exact⟨a,by omega⟩
  ·rename_i h1;have e:DI (D4 s off (r::rs)) ([]:List C2).length=Ou s off r:=rfl;rw[e];exact⟨by show(n:Int) < (off:Int)+(r.size:Int);omega,by show(off:Int)+(r.size:Int)<=_;omega⟩
def b5 (b0 b1 b2 b3 b4:Bool):Nat->Bool
 | 0=>b0
 | 1=>b1
 | 2=>b2
 | 3=>b3
 | _=>b4
def AAQ (b0 b1 b2 b3 b4:Bool):Bool:=(List.range 5).all fun i=>(iA (31 - (zo (b5 b0 b1 b2 b3 b4) 5 0 0:Int)) i==b5 b0 b1 b2 b3 b4 i)&&(iA (zo (b5 b0 b1 b2 b3 b4) 5 0 0:Int) i== !b5 b0 b1 b2 b3 b4 i)
def AAq:Bool:=[true,false].all fun b0=>[true,false].all fun b1=>[true,false].all fun b2=>[true,false].all fun b3=>[true,false].all fun b4=>AAQ b0 b1 b2 b3 b4
theorem AAc (b0 b1 b2 b3 b4:Bool):AAQ b0 b1 b2 b3 b4=true:=by
 have h:AAq=true:=by kernel_rfl
 have m:∀b:Bool,b∈[true,false]:=fun b=>by cases b<;>simp
 exact List.all_eq_true.1 (List.all_eq_true.1 (List.all_eq_true.1 (List.all_eq_true.1 (List.all_eq_true.1 h b0 (m b0)) b1 (m b1)) b2 (m b2)) b3 (m b3)) b4 (m b4)
theorem y8 {b b':Nat->Bool} (h:∀i,i < 5->b i=b' i):∀(k i m:Nat),i+k<=5->zo b k i m=zo b' k i m
 | 0,_,_,_=>rfl
 | k+1,i,m,hk=>by
  unfold zo;rw[h i (by omega),y8 h k (i+1) _ (by omega)]
theorem z6 (b:Nat->Bool) {i:Nat} (hi:i < 5):iA (31 - (zo b 5 0 0:Int)) i=b i/\iA (zo b 5 0 0:Int) i= !b i:=by
 have h:=AAc (b 0) (b 1) (b 2) (b 3) (b 4);unfold AAQ at h;have h:=List.all_eq_true.1 h i (List.mem_range.2 hi);simp only[DL,ABZ]at h;have h5:∀i,i < 5->b5 (b 0) (b 1) (b 2) (b 3) (b 4) i=b i:=fun i hi=>match i,hi with
  | 0,_=>rfl
  | 1,_=>rfl
  | 2,_=>rfl
  | 3,_=>rfl
  | 4,_=>rfl
  | i+5,h=>absurd h (by omega)
 rw[y8 h5 5 0 0 (by omega),h5 i hi]at h;exact h
theorem AAR {m:AS} {k:Int} (h1:m.Ej<=m.b.length) (hk:0<=k):m.Ej<=Dd m k/\Dd m k<=m.b.length:=by unfold Dd;split<;>omega
theorem AAW {ks:Ad} {t:Nat} {m:AS} (h0:0<=m.Ej) (h1:m.Ej<=m.b.length) (hk:0<=Im ks t):∃n,n<=m.b.length/\(IW ks t m).b=m.b.take n/\m.Ej<=n:=by
 unfold IW;cases hc:decide (0 < m.b.length)
 ·have:=vo hc;rw[NJ];exact⟨m.b.length,CC _,(cl).symm,h1⟩
 ·rw[Al];obtain⟨a,b⟩:=AAR h1 hk;exact⟨(Dd m (Im ks t)).toNat,by omega,rfl,by omega⟩
theorem zm {ks:Ad} (h:∀x∈ks,0<=x) (t:Nat):0<=Im ks t:=by
 have h0:0<=ks.getD (t % ks.length) 0:=by
  rw[F5];cases e:ks[t % ks.length]? with
  | none=>exact ld _
  | some x=>exact h x (VE e)
 unfold Im;split<;>omega
def zR (d:Ab) (ks:Ad):Ab:=⟨Ff ks d.BB d.BB.length,none,d.AR,d.ops,false⟩
theorem AAI {d:Ab} {ks:Ad} {s:Nat} (hs:s < d.BB.length):CV (zR d ks) (s:Nat)=IW ks s (CV d (s:Nat)):=by
 unfold CV zR;simp only[HR];rw[F5,Qw,HI hs,F5,FL hs];rfl
theorem AAf {d:Ab} {ks:Ad} (hd:d.down=false) (h1:1<=ks.length) (h2:ks.length<=34) (hk:∀x∈ks,0<=x/\x<=8192):Kd d 0 false ks=(0,⟨Ff ks d.BB d.BB.length,none,d.AR,d.ops,true⟩):=by
 have e:ks.all I0=true:=List.all_eq_true.2 fun x hx=>by
  obtain⟨a,b⟩:=hk x hx;unfold I0;rw[Fp a,Fp b];rfl
 have hp:FF 0 ks=true:=by
  unfold FF;rw[e,Fp h1,Fp h2];rfl
 unfold Kd;rw[hp,hd];rfl
structure zw (d:Ab) (rs:Nat->List C2) (us:Nat->Nat) (c:Bool):Prop where
 P:je d rs
 u:∀s:Nat,s < 5->us s<=(rs s).length/\(B3 ((rs s).take (us s))).length<=(CV d (s:Nat)).b.length
 all:c=false->∀s:Nat,s < 5->(CV d (s:Nat)).b=B3 (rs s)
theorem eu (rs:List C2) (j:Nat):(B3 (rs.take j)).length<=(B3 rs).length:=by
 have e:B3 rs=B3 (rs.take j)++B3 (rs.drop j):=by
  unfold B3;rw[<-ABr,ABe]
 rw[e,Fu];omega
theorem zk {st:PF} {i:Nat} {rs:Nat->List C2} {us:Nat->Nat} (h:FI st i rs us) (hi:i<=1000) {d:Ab} (h1:d.AR=5) (h2:d.down=false) (h3:d.BB.length=7) (h4:∀s:Nat,s < 5->∃n,n<=(B3 (rs s)).length/\(CV d (s:Nat)).b=(B3 (rs s)).take n):je d rs:=
 ⟨h1,h2,h3,h4,h.sz,h.ok,h.nd,h.DG,fun s hs=>by have:=h.qk s hs;omega⟩
theorem AAk {st:PF} {i:Nat} {rs:Nat->List C2} {us:Nat->Nat} (h:FI st i rs us) (hi:i<=1000):zw st.d rs us false:=by
 refine⟨zk h hi h.sl h.dn h.len fun s hs=>⟨_,CC _,by rw[h.im s hs,cl]⟩,fun s hs=>⟨(h.u s hs).2,?_⟩,fun _ s hs=>by rw[h.im s hs]⟩;rw[h.im s hs];exact eu _ _
theorem AAP {st:PF} {i:Nat} {rs:Nat->List C2} {us:Nat->Nat} (h:FI st i rs us) (hi:i<=1000) {ks:Ad} (hk:∀x∈ks,0<=x):zw (zR st.d ks) rs us true:=by
 have key:∀s:Nat,s < 5->∃n,n<=(B3 (rs s)).length/\(CV (zR st.d ks) (s:Nat)).b=(B3 (rs s)).take n/\(B3 ((rs s).take (us s))).length<=n:=fun s hs=>by
  rw[AAI (by rw[h.len];omega),h.im s hs];have hle:=eu (rs s) (us s);obtain⟨n,a,b,c⟩:=AAW (ks:=ks) (t:=s) (m:=⟨600,((B3 ((rs s).take (us s))).length:Nat),B3 (rs s)⟩) (WQ _) (by show((B3 _).length:Int)<=((B3 _).length:Int);omega) (zm hk s);exact⟨n,a,b,by have c:(((B3 ((rs s).take (us s))).length:Nat):Int)<=n:=c;omega⟩
 refine⟨zk h hi h.sl rfl (by show(Ff ks st.d.BB _).length=7;rw[FY];exact h.len) fun s hs=>?_,fun s hs=>⟨(h.u s hs).2,?_⟩,fun e=>by cases e⟩
 ·obtain⟨n,a,b,_⟩:=key s hs;exact⟨n,a,b⟩
 ·obtain⟨n,a,b,c⟩:=key s hs;rw[b,IP];omega
theorem AAb {d:Ab} {rs:Nat->List C2} {us:Nat->Nat} {c:Bool} (h:zw d rs us c):AAF d:=by
 have hP:=h.P;exact⟨hP.sl,hP.dn,(aG hP).1,fun i hi=>Fe hP.len (by omega),fun i hi _=>Rv hP.dn (Fe hP.len (by omega))⟩
abbrev zn (c:BT):Prop:=AX XFi 22 SD (fun v _=>v= .bool true) c
theorem ABH (hW:CY Tryz.prog AI Dj uw):Ci cFi:= .cons gH <| .other cA (KE (M0 _ _)) <| .other QK (KE (M0 _ _)) <| .cons SB <| .cons jI <| .cons ABD <| .cons sn <| .other Sz (KE Ws) <| .cons oG <| .cons fp <| .other hW tL .nil
theorem AAv (hW:CY Tryz.prog AI Dj uw) {S S2:Stop} {h1 h2:BT->Bool} {Q:Bm} {R R2:Bz} {x:BT} (hS:22<=S.N) (hS2:22<=S2.N) (hQ:∀v l,Q v l->v= .bool true) (hR:∀c,R c->zn c) (hR2:∀c,R2 c->zn c) (h:y9 S h1 S2 h2 Q R R2 x):zn x:=
 IH (hs:=[]) (f:=SD) (ids:=[]) (S:=S) (S2:=S2) (h1:=h1) (h2:=h2) (ks:=[]) (Q:=Q) (R:=R) (R2:=R2) (Q':=fun v _=>v= .bool true) (ABH hW).pf (M:=22) (by kernel_rfl) hS hS2 (fun v H hq=>hQ _ _ hq) hR hR2 3000 x h
theorem vq (hW:CY Tryz.prog AI Dj uw) {S S2:Stop} {h1 h2:BT->Bool} {x:BT} {R R2:Bz} (hS:22<=S.N) (hS2:22<=S2.N) (hR:∀c,R c->zn c) (hR2:∀c,R2 c->zn c) (h:y9 S h1 S2 h2 (fun _ _=>False) R R2 x):zn x:=AAv hW hS hS2 (fun _ _ hq=>hq.elim) hR hR2 h
section
variable {l:List B2} {kp:Ad} {d:Ab} {x:Cm} {F S:Int} {L:Nat->Aw} {u:Nat->Int} {c:Bool}
structure zA (d:Ab) (x:Cm) (F S:Int) (L:Nat->Aw) (u:Nat->Int) (c:Bool) (i:Nat):Prop where
 dn:d.down=false
 bad:Ba d.BB (i:Nat)=false
 es:V4 x i
 pre:(Ux x (i:Nat)).length<=(L i).length
 eq:(L i).take (Ux x (i:Nat)).length=Ux x (i:Nat)
 len:(L i).length<=1000
 Ej:u i<=(Ux x (i:Nat)).length
 all:c=false->(Ux x (i:Nat)).length=(L i).length
 bF:iA F i=bdB d i
 bS:iA S i= !bdB d i
 n0:0<=A8 d (i:Nat)
 n1:A8 d (i:Nat)<=600
 fin:∀m,m < (Ux x (i:Nat)).length->zl (DI (Ux x (i:Nat)) m)<=A8 d (i:Nat)
 nxt:(Ux x (i:Nat)).length < (L i).length->A8 d (i:Nat) < zl (DI (L i) (Ux x (i:Nat)).length)
 rdl:Ql d (i:Nat)=A8 d (i:Nat)
theorem AAM {i:Nat} (h:zA d x F S L u c i) {B T:Prop} (hT:T):rfW x L u i c B T:=by
 have hp:=h.pre;have hl:=h.len;have heq:=h.eq;have hd:=h.Ej;have ha:=h.all;have hes:=h.es;unfold rfW;generalize Ux x (i:Nat)=g at hp heq hd ha;have self:PR g g g.length g.length:=⟨CC _,CC _,rfl,by omega⟩;refine AZ (GP (by show ¬((L i).length:Int) < (g.length:Int);omega)) (AZ (GP (by show ¬(g.length:Int) < u i;omega)) (AB ?_ ⟨⟨CC _,hp,by rw[cl];exact heq.symm,by omega⟩,?_⟩))
 ·show(decide ((0:Int)<=(g.length:Int))&&Nat.ble g.length (L i).length&&decide ((0:Int)<=0)&&Nat.ble 0 g.length)=true;rw[Fp (WQ _),B0 hp,B0 (PM _)];rfl
 ·cases c
  ·rw[NJ];refine AZ ?_ ⟨⟨rfl,hes⟩,self,hT⟩;rw[ha rfl];simp
  ·exact⟨⟨rfl,hes⟩,self,hT⟩
theorem AA2 {i:Nat} (h:zA d x F S L u c i) {B T:Prop} (hT:T):rfV (L i) (Ux x (i:Nat)).length (A8 d (i:Nat)) B T:=by
 have hp:=h.pre;have hx:=h.nxt;unfold rfV;generalize (Ux x (i:Nat)).length=m at hp hx
 by_cases hm:m < (L i).length
 ·have b1:(decide (0<=Int.ofNat m)&&Nat.blt (Int.toNat (Int.ofNat m)) (L i).length)=true:=EI hm;have b2:Nat.blt (0+Int.toNat (Int.ofNat m)) (L i).length=true:=by rw[Hq];exact Gc hm
  have hx:=hx hm;refine AB (Fp (by show(m:Int) < ((L i).length:Int);omega)) (AB b1 (AB b2 (AB b1 (AB b2 (AZ (GP ?_) hT)))));rw[Hq];show ¬zl (DI (L i) m)<=_;omega
 ·exact AZ (GP (by show ¬(m:Int) < ((L i).length:Int);omega)) hT
variable (hW:CY Tryz.prog AI Dj uw)
include hW in
theorem AAL (hR:kR d) (hs:∀i:Nat,i < 5->zA d x F S L u c i):∀(k i:Nat) (tot:Int),5 - i=k->i<=5->0<=tot->tot<=600 * i->jm d k i tot=gO d->zn (jr l kp d x F S L u c tot (i:Nat)):=by
 intro k;induction k with
 | zero=>
  intro i tot hk hi t0 t1 he;have e:i=5:=by omega
  subst e;have he:tot=gO d:=he;refine AAv hW (S:=ch) (S2:=ch) (h1:=iC ch 2) (h2:=Jo) (Q:=fun v _=>v= .bool true) (R:=fun _=>False) (R2:=fun _=>False) (by decide) (by decide) (fun v l hq=>hq) (fun c h=>h.elim) (fun c h=>h.elim) ?_;show y9 _ _ _ _ _ _ _ (jr l kp d x F S L u c tot 5);rw[AA8];exact⟨hR,rfl,rfl,rfl,rfl,AB (ABZ.2 he.symm) rfl⟩
 | succ k ih=>
  intro i tot hk hi t0 t1 he;have hi5:i < 5:=by omega
  have h:=hs i hi5;have n0:=h.n0;have n1:=h.n1;have hsum:jm d k (i+1) (tot+A8 d (i:Nat))=gO d:=by
   rw[<-h.rdl];exact he
  have hnext:=ih (i+1) (tot+A8 d (i:Nat)) (by omega) (by omega) (by omega) (by omega) hsum;have hw:IntKind.wrap .i64 (tot+A8 d (i:Nat))=tot+A8 d (i:Nat):=wrap64 (by omega) (by omega);refine vq hW (S:=AAx) (S2:=ch) (h1:=zM 29) (h2:=Jo) (R:=fun c'=>c'=za l kp d x F S L u c (tot+A8 d (i:Nat)) i (Ux x (i:Nat)) (Ux x (i:Nat)).length (A8 d (i:Nat))) (R2:=fun _=>False) (by decide) (by decide) (fun c' hc=>?_) (fun c h=>h.elim) ?_
  ·rw[hc];refine vq hW (S:=ch) (S2:=ch) (h1:=iC ch 2) (h2:=Jo) (R:=fun c'=>c'=jr l kp d x F S L u c (tot+A8 d (i:Nat)) ((i+1:Nat):Int)) (R2:=fun _=>False) (by decide) (by decide) (fun c' hc=>by rw[hc];exact hnext) (fun c h=>h.elim) ?_;rw[ABF hi5];have hV:=AA2 h (B:=False) (T:=jr l kp d x F S L u c (tot+A8 d (i:Nat)) ((i+1:Nat):Int)=jr l kp d x F S L u c (tot+A8 d (i:Nat)) ((i+1:Nat):Int)) rfl;have hf:=h.fin;have hl:=h.len;have hp:=h.pre;generalize hg:Ux x (i:Nat)=g at hf hp hV
   by_cases hm:0 < g.length
   ·have e1:IntKind.wrap .i64 (Int.ofNat g.length - 1)=((g.length - 1:Nat):Int):=by
     show IntKind.wrap .i64 ((g.length:Int) - 1)=_;rw[wrap64 (by omega) (by omega)];omega
    rw[e1];have b1:(decide ((0:Int)<=((g.length - 1:Nat):Int))&&Nat.blt (Int.toNat ((g.length - 1:Nat):Int)) g.length)=true:=EI (by omega);have b2:Nat.blt (0+Int.toNat ((g.length - 1:Nat):Int)) g.length=true:=by rw[Hq,HR];exact Gc (by omega)
    refine AB (Fp (by show(0:Int) < (g.length:Int);omega)) (AB b1 (AB b2 (AB b1 (AB b2 (AZ (GP ?_) hV)))));rw[Hq,HR];have:=hf (g.length - 1) (by omega);omega
   ·exact AZ (GP (by show ¬(0:Int) < (g.length:Int);omega)) (AZ (GP (by omega)) hV)
  ·rw[AA1 hi5,hw,h.bF,h.bS];refine⟨⟨rfl,h.es⟩,⟨h.dn,h.bad⟩,?_⟩;cases hb:bdB d i
   ·have hne:A8 d (i:Nat)≠0:=fun e=>by unfold bdB at hb;rw[e]at hb;cases hb
    have hb:(A8 d (i:Nat)==0)=false:=hb;exact AZ rfl (AB rfl (AAM h (AB (Fp (by omega)) (AZ hb rfl))))
   ·have h0:A8 d (i:Nat)=0:=ABZ.1 hb;have hb:(A8 d (i:Nat)==0)=true:=hb;exact AB rfl (AAM h (AZ (GP (by omega)) (AB hb rfl)))
theorem ze {e:NQ} (h0:0<=e.2.2.2.2.1+e.2.2.2.2.2) (h1:e.2.2.2.2.1+e.2.2.2.2.2<=1000000):zl e=e.2.2.2.2.1+e.2.2.2.2.2:=wrap64 (by omega) (by omega)
theorem z8 {st:PF} {i:Nat} {rs:Nat->List C2} {us:Nat->Nat} (hF:FI st i rs us) (hi:i<=50) {d:Ab} {c:Bool} (h:zw d rs us c):∀s:Nat,s < 5->zA d (EG d) (31 - (bdM d:Int)) (bdM d) st.L st.u c s:=by
 intro s hs;have hP:=h.P;obtain⟨q1,q2,q3⟩:=aG hP;have hcnt:=hF.qk s hs;have hfl:(HM d rs s).length<=(rs s).length:=(bG (rs s) 0).length_le;have hes:Ux (EG d) (s:Nat)=D4 (s:Nat) 0 (HM d rs s):=by
  unfold Ux;rw[HR,q3 s hs,Pb (by rw[H6];omega)]
 obtain⟨t,ht⟩:=bG (n:=(CV d (s:Nat)).b.length) (rs s) 0;have ht:HM d rs s++t=rs s:=ht;obtain⟨n,hn,hb⟩:=hP.pre s hs;have hsz:=hP.sz s hs;have hbl:(CV d (s:Nat)).b.length<=600:=by rw[hb,IP];omega
 obtain⟨bF,bS⟩:=z6 (bdB d) hs;have hu:=(hF.u s hs).1;refine⟨hP.dn,Fe hP.len (by omega),⟨by rw[q2];exact hs,by rw[q2];decide,by rw[q3 s hs,H6];omega⟩,?_,?_,?_,?_,fun hc=>?_,bF,bS,WQ _,by show(((CV d (s:Nat)).b.length:Nat):Int)<=600;omega,fun m hm=>?_,fun hlt=>?_,?_⟩
 ·rw[hes,hF.L s hs,H6,H6];exact hfl
 ·rw[hes,hF.L s hs,H6];have e:D4 (s:Nat) 0 (rs s)=D4 (s:Nat) 0 (HM d rs s)++D4 (s:Nat) (0+(B3 (HM d rs s)).length) t:=by rw[<-Sw,ht]
  rw[e,TS (by rw[H6];exact CC _),Pb (by rw[H6];exact CC _)]
 ·rw[hF.L s hs,H6];omega
 ·rw[hes,H6,hu];have:=zt (n:=(CV d (s:Nat)).b.length) (rs s) 0 (us s) (by have:=(h.u s hs).2;omega) (h.u s hs).1;show((us s:Nat):Int)<=((Q4 _ 0 (rs s)).length:Int);omega
 ·rw[hes,hF.L s hs,H6,H6];unfold HM;rw[h.all hc s hs,aU (rs s) 0 (by omega)]
 ·rw[hes]at hm ⊢;obtain⟨e0,e1⟩:=zh (s:=(s:Nat)) (n:=(CV d (s:Nat)).b.length) (rs s) 0 _ (WT hm);have e:=ze (e:=DI (D4 (s:Nat) 0 (HM d rs s)) m) e0 (by have:DI (D4 (s:Nat) 0 (HM d rs s)) m=DI (D4 (s:Nat) 0 (Q4 (CV d (s:Nat)).b.length 0 (rs s))) m:=rfl;rw[this];omega);rw[e];exact e1
 ·rw[hes,hF.L s hs,H6,H6]at hlt;rw[hes,hF.L s hs,H6];obtain⟨e0,e1⟩:=zK (s:=(s:Nat)) (n:=(CV d (s:Nat)).b.length) (rs s) 0 hlt;have e:=ze (e:=DI (D4 (s:Nat) 0 (rs s)) (HM d rs s).length) (by unfold HM;omega) (by unfold HM;omega);rw[e];exact e0
 ·unfold Ql;cases hz:A8 d (s:Nat)==0
  ·rw[NJ,Nt];rfl
  ·rw[Al];exact(ABZ.1 hz).symm
include hW in
theorem AAZ {st:PF} {i:Nat} {rs:Nat->List C2} {us:Nat->Nat} (hF:FI st i rs us) (hi:i<=50) {d:Ab} {c:Bool} (h:zw d rs us c):zn (gV l kp d st.L st.u c):=by
 have hB:=AAb h;have hR:=nz h.P;have hs:=z8 hF hi h;refine vq hW (S:=ch) (S2:=ch) (h1:=iC ch 2) (h2:=Jo) (R:=fun c'=>c'=jr l kp d (EG d) (31 - (bdM d:Int)) (bdM d) st.L st.u c 0 (0:Nat)) (R2:=fun _=>False) (by decide) (by decide) (fun c' hc=>?_) (fun c h=>h.elim) ?_
 ·rw[hc];refine AAL hW hR hs 5 0 0 rfl (by omega) (ld _) (ld _) ?_;unfold gO;rw[h.P.sl];rfl
 ·rw[ABE];exact⟨hB.sc,⟨⟨rfl,rfl,rfl,rfl,rfl,rfl,rfl⟩,hB⟩,rfl,rfl,rfl,rfl⟩
end
def AAO (k:Int):Int:=IntKind.wrap .i64 (Int.tmod k 700)
def zF (kp:Ad) (i:Nat):Ad:=0::(kp.take i).map AAO
theorem zf {kp:Ad} {i:Nat} (h:i<=kp.length):(zF kp i).length=i+1:=by unfold zF;rw[ZC,cw,IP,bV h]
theorem zx {kp:Ad} {i:Nat} (h:i < kp.length):zF kp (i+1)=zF kp i++[AAO (kp.getD i 0)]:=by
 unfold zF;rw[vR h,ABq,F5,FL h];rfl
def Kps (kp:Ad):Prop:=∀x∈kp,0<=x
theorem AA6 {k:Int} (h:0<=k):0<=AAO k/\AAO k<=8192:=by
 obtain⟨r0,r1⟩:=MJ (m:=700) h (by decide);unfold AAO;rw[wrap64 (by omega) (by omega)];omega
theorem AAt {kp:Ad} (h:Kps kp) (i:Nat):∀x∈zF kp i,0<=x/\x<=8192:=fun x hx=>by
 unfold zF at hx;rcases List.mem_cons.1 hx with rfl | hx
 ·decide
 ·obtain⟨k,hk,rfl⟩:=List.mem_map.1 hx;exact AA6 (h k (oV hk))
def AAe (m:Nat):Nat:=Int.toNat (if (5:Int) < Int.ofNat m then 5 else Int.ofNat m) - 0
theorem zb (m:Nat):AAe m<=m/\AAe m<=5:=by
 unfold AAe;split
 ·rename_i h;have h:(5:Int) < (m:Int):=h;show Int.toNat 5 - 0<=m/\Int.toNat 5 - 0<=5;have:Int.toNat 5=5:=rfl;omega
 ·rename_i h;have h:¬(5:Int) < (m:Int):=h;show m - 0<=m/\m - 0<=5;omega
theorem AAy (m:Nat):(decide ((0:Int)<=if (5:Int) < Int.ofNat m then 5 else Int.ofNat m)&&Nat.ble (Int.toNat (if (5:Int) < Int.ofNat m then 5 else Int.ofNat m)) m&&decide ((0:Nat)<=0)&&Nat.ble 0 (Int.toNat (if (5:Int) < Int.ofNat m then 5 else Int.ofNat m)))=true:=by
 have h1:Int.toNat (if (5:Int) < Int.ofNat m then 5 else Int.ofNat m)<=m:=(zb m).1;have h0:(0:Int)<=if (5:Int) < Int.ofNat m then 5 else Int.ofNat m:=by
  split
  ·decide
  ·exact WQ m
 rw[Fp h0,B0 h1,B0 (PM _)];rfl
section
variable {l:List B2} {kp:Ad} {d:Ab} {L:Nat->Aw} {u:Nat->Int} {c:Bool}
variable (hW:CY Tryz.prog AI Dj uw)
include hW in
theorem AAD {k:Nat} (hk:k<=kp.length) (hk5:k<=5) (hkp:Kps kp) (hd:d.down=false) (hK:zn (gV l kp (zR d (zF kp k)) L u c)):∀(n i:Nat),k - i=n->i<=k->zn (AAm l kp d L u c k (zF kp i) (i+1) (i:Nat)):=by
 intro n;induction n with
 | zero=>
  intro i hn hi;have e:i=k:=by omega
  subst e;refine vq hW (S:=lu) (S2:=zH) (h1:=iC lu 0) (h2:=zM 13) (R:=fun _=>False) (R2:=fun c'=>c'=gV l kp (zR d (zF kp i)) L u c) (by decide) (by decide) (fun c h=>h.elim) (fun c' hc=>by rw[hc];exact hK) ?_;have hl:=zf hk;have ha:=AAf (d:=d) (ks:=zF kp i) hd (by omega) (by omega) (AAt hkp i);rw[AAK];(conv=>zeta);rw[ha]
  exact AZ (GP (by omega)) ⟨⟨hl.symm,by omega⟩,rfl,rfl,rfl⟩
 | succ n ih=>
  intro i hn hi;have hik:i < k:=by omega
  refine vq hW (S:=lu) (S2:=zH) (h1:=iC lu 0) (h2:=zM 13) (R:=fun c'=>c'=AAm l kp d L u c k (zF kp (i+1)) (i+1+1) ((i+1:Nat):Int)) (R2:=fun _=>False) (by decide) (by decide) (fun c' hc=>by rw[hc];exact ih (i+1) (by omega) (by omega)) (fun c h=>h.elim) ?_;have hl:=zf (kp:=kp) (i:=i) (by omega);have hw:IntKind.wrap .i64 ((i:Int)+1)=((i+1:Nat):Int):=by rw[wrap64 (by omega) (by omega)];rfl
  have hc:(true&&Nat.ble (0+(i+1)) (zF kp i).length&&BQ 8 (i+1+1))=true:=by
   rw[Hq,hl,B0 (CC _)];unfold BQ;rw[B0 (by omega),B0 (by omega)];rfl
  have ht:List.take (i+1) (List.drop 0 (zF kp i))=zF kp i:=by rw[O9,Pb (by omega)]
  rw[AAK];(conv=>zeta);rw[hw,ht]
  simp only[HR,Hq];rw[Hq]at hc;have e2:zF kp i++[IntKind.wrap .i64 (Int.tmod (kp.getD i (EK.BL kb)) 700)]=zF kp (i+1):=(zx (by omega)).symm;rw[e2];exact AB (Fp (by omega)) (AB (EI hik) (AB (Gc (by omega)) (AB hc rfl)))
include hW in
theorem AAU {k:Nat} (hk:k<=kp.length) (hk5:k<=5) (hkp:Kps kp) (hd:d.down=false) (hK:zn (gV l kp (zR d (zF kp k)) L u c)):zn (ABB l kp d L u c k 0):=by
 refine A5.AAd 23 30 kI [0] [int 0,.bool false] [] (m:=1) (c:=1) (e:=0) (ro:=false) (ra:=false) (by kernel_rfl) (by kernel_rfl) (by kernel_rfl) (by kernel_rfl) (by decide) (by decide) (by decide) (by decide) (by decide) (by decide) ?_;have h:=AAD hW hk hk5 hkp hd hK _ 0 rfl (PM _);refine cast ?_ h;kernel_rfl
end
variable (hW:CY Tryz.prog AI Dj uw)
include hW in
theorem AAi {l:List B2} {kp:Ad} {c:Bool} (hput:∀i,Ld (PJ l i)) (hkp:Kps kp):zn (st SD [Ao 20 l.length,.bool c,Ao 21 kp.length] (hp [.vec JQ l true,.vec kb kp true])):=by
 have hkl:=(Xn l.length).2;obtain⟨hall,rs,us,hF⟩:=ji hput (Mc l.length) 0 Oo _ _ (by omega) yG;have hst:Eo l (Mc l.length) 0 Oo=wO l l.length:=rfl;rw[hst,Hq]at hF;generalize hs0:wO l l.length=s0 at hF hst;obtain⟨k1,k2⟩:=zb kp.length;refine vq hW (S:=lu) (S2:=zH) (h1:=iC lu 0) (h2:=zM 13) (R:=fun c'=>c=true/\c'=ABB l kp s0.d s0.L s0.u c (AAe kp.length) 0) (R2:=fun c'=>c=false/\c'=gV l kp s0.d s0.L s0.u c) (by decide) (by decide) (fun c' hc=>?_) (fun c' hc=>?_) ?_
 ·obtain⟨rfl,rfl⟩:=hc;exact AAU hW k1 k2 hkp hF.dn (AAZ hW hF (by omega) (AAP hF (by omega) fun x hx=>(AAt hkp _ x hx).1))
 ·obtain⟨rfl,rfl⟩:=hc;exact AAZ hW hF (by omega) (AAk hF (by omega))
 ·rw[AA5];(conv=>zeta);rw[hs0,hst]
  refine⟨⟨rfl,hall⟩,BX (fun hc=>AB (AAy _) ⟨hc,rfl⟩) fun hc=>⟨hc,rfl⟩⟩
end Go.AD
