/-
  Part of the proof: the machine that runs a program by fixed orders, and that each of its runs is a run of the model; or a run of it in parts. No conditions.
-/
import Derived.Test.YtkccgiifmlhhjaaGreatDoorLk
import Derived.Test.YtkccgiifmlhhjaaGreatDoorSfb
import Derived.Test.YtkccgiifmlhhjaaGreatDoorLxb
import Derived.Test.YtkccgiifmlhhjaaGreatDoorIdTell3
import Derived.Test.YtkccgiifmlhhjaaGreatDoorInc
noncomputable section
set_option maxRecDepth 1000000
namespace Go.AD
open Go.Proofs
theorem JW.trans {H:AA} {rs ss:AW} (h:∀b∈ss,JW H rs b) {c:Nat} (hc:JW H ss c):JW H rs c:=by
 induction hc with
 | here hb=>exact h _ hb
 | next _ ho hr ih=>exact .next ih ho hr
theorem SV (b:Nat):∀n j,Cp b j n=(List.range' j n).map fun j=>Value.pointer (some ⟨b,Aa,some j⟩)
 | 0,j=>rfl
 | n+1,j=>by
  show _::Cp b (j+1) n=_;rw[SV b n (j+1),List.range'_succ];rfl
theorem Yf (b n:Nat):Cp b 0 n=Ds b n:=by
 rw[SV];unfold Ds;rw[List.range_eq_range',Dh]
theorem Told.wG {D:Nat->Prop} {Φ:Ih} {v:Value} {H:AA} {s:Pk} {b0 d:Nat} (bs:AW) {objs:BN} (hr:Bx s objs) (hx:C3 s=[]) (hb0:bs[0]? = some b0) (hA:d∈Au 4 v∨D d) (hd:JW H [d] b0) (hnd:bs.Nodup) (hreach:∀b∈bs,JW H [b0] b) (hobj:Ft bs H bs objs) (hroot:∀o T,objs[0]? = some o->¬o.void T)
 (next:∀H2:AA,(∀x,x∉bs->H2.get x=H.get x)->H2.get b0=some (.abs (.pack s) false)->Told D Φ v H2):Told D Φ v H:=by
 have hS:=E2 (s:=s) (H:=H) hnd;refine .shut s objs bs [d] hr ?_ hobj.len hnd (fun b hb=>by rw[I6]at hb;rw[hb];exact hA) (fun b hb=>JW.trans (fun x hx=>by rw[I6]at hx;rw[hx];exact hd) (hreach b hb)) (by rw[hx];exact hobj.at) hroot (next _ (fun x hx=>hS.GK x hx) (hS.root b0 hb0));rintro rfl;have:=hobj.len;rw[ABO]at this;rw[List.length_eq_zero_iff.1 this]at hb0;cases hb0
theorem cJ {b0 r a:Nat} {L:List AS} {H:AA} (hn:0 < L.length) (hn2:L.length<=34) (h:ml b0 r a L H):∃objs,Bx (.Bw L) objs/\[b0,r,a][0]? = some b0/\[b0,r,a].Nodup/\(∀b∈[b0,r,a],JW H [b0] b)/\Ft [b0,r,a] H [b0,r,a] objs/\(∀o T,objs[0]? = some o->¬o.void T):=Qz hn hn2 h
theorem eS {d a b:Nat} {s:Ab} {H:AA} (hd:FQ s) (hn:[d,a,b].Nodup) (h:[H.get d,H.get a,H.get b]=eh a b s):∃objs,Bx (.dev s) objs/\[d,a,b][0]? = some d/\[d,a,b].Nodup/\(∀x∈[d,a,b],JW H [d] x)/\Ft [d,a,b] H [d,a,b] objs/\(∀o T,objs[0]? = some o->¬o.void T):=by
 simp only[eh,JB,dM]at h;obtain⟨g0,g1,g2⟩:=h;refine⟨_,.dev s hd,rfl,hn,fun x hx=>?_,⟨⟨_,g0,rfl,rfl,?_⟩,⟨_,g1,rfl,rfl,by rfl⟩,⟨_,g2,rfl,rfl,by rfl⟩,trivial⟩,fun o T ho=>by cases ho;exact id⟩
 ·simp only[WL,YC,AAw]at hx;rcases hx with rfl | rfl | rfl
  ·exact .here (by simp)
  ·exact .next (.here (by simp)) g0 (by simp[IK,Au,At,ND])
  ·exact .next (.here (by simp)) g0 (by simp[IK,Au,At,ND])
 ·refine Qx ?_ ?_ _ _ _
  ·rfl
  ·rfl
theorem o5 {D:Nat->Prop} {Φ:Ih} {v:Value} {H:AA} {d c R t n:Nat} {L:List AS} {zs:AW} (hn:2<=n) (hn2:n<=32) (hL:L.length=n+2) (hz:zs.length=L.length) (hnd:(d::c::R::t::zs).Nodup) (gd:H.get d=some (ND c t n 0 false)) (gc:H.get c=some (.cells [.slice (some ⟨R,0,none⟩) (n+2) (Aa+(n+2))] 0 false))
 (gR:H.get R=some (.cells (zs.map At) 1 false)) (gt:H.get t=some (Lv (.timer none))) (gz:∀p∈zs.zip (L.map Pk.CJ),H.get p.1=some (.abs (.pack p.2) false)) (hA:d∈Au 4 v∨D d) (next:∀H2:AA,H2.get d=some (Lv (.dev ⟨L,none,n,0,false⟩))->Told D Φ v H2):Told D Φ v H:=by
 generalize hzz:zs.zip (L.map Pk.CJ)=zz at gz;have hzl:zz.map Prod.fst=zs:=by rw[<-hzz];exact List.map_fst_zip (by rw[cw,hz];exact CC _)
 have hzs:zz.map (fun p=>some p.2)=L.map fun m=>some (.CJ m):=by
  have:zz.map Prod.snd=L.map Pk.CJ:=by rw[<-hzz];exact List.map_snd_zip (by rw[cw,hz];exact CC _)
  rw[show(fun p:Nat × Pk=>some p.2)=some ∘ Prod.snd from rfl,<-ABN,this,ABN];rfl
 have hlen:zz.length=n+2:=by rw[<-hL,<-hz,<-hzl,cw]
 have hzx:∀p∈zz,C3 p.2=[]:=fun p _=>rfl
 simp only[fg,WL,ABw]at hnd;obtain⟨⟨n1,n2,n3,n4⟩,⟨n5,n6,n7⟩,⟨n8,n9⟩,n10,n11⟩:=hnd;have zne:∀p∈zz,p.1∈zs:=fun p hp=>by rw[<-hzl];exact List.mem_map.2 ⟨p,hp,rfl⟩
 have Jl:zs.map At=zz.map fun p=>Value.pointer (some ⟨p.1,0,none⟩):=by rw[<-hzl,ABN];rfl
 refine .JF R [.tok] (zs.map At) false (by rw[D9];exact gR) ?_;refine .wy R [.tok] (zs.map At) false (by rw[AA.AU,HI rfl]) (by intro e;have:=congrArg List.length e;rw[cw,hz,hL]at this;cases this) (by decide) v (.val (.same v)) c _ _ 0 false (by rw[AA.AU,E7 n5];exact gc) (.cons (.row (n+2) _ (n+2) rfl) .nil) ?_;generalize hH1:(H.put R (.vec [.tok] (zs.map At) false)).put c (.cells [.slice (some ⟨R,0,some 0⟩) (n+2) Aa] 0 false)=H1;have get1:∀x,H1.get x=if x=c then some (.cells [.slice (some ⟨R,0,some 0⟩) (n+2) Aa] 0 false)else if x=R then some (.vec [.tok] (zs.map At) false)else H.get x:=fun x=>by rw[<-hH1,AA.AU,AA.AU]
 have next1:H1.next=H.next:=by rw[<-hH1];rfl
 have hd1:H1.get d=some (ND c t n 0 false):=by rw[get1,E7 n1,E7 n2];exact gd
 have hc1:H1.get c=some (.cells [.slice (some ⟨R,0,some 0⟩) (n+2) Aa] 0 false):=by rw[get1,HI rfl]
 have hR1:H1.get R=some (.vec [.tok] (zz.map fun p=>Value.pointer (some ⟨p.1,0,none⟩)) false):=by rw[get1,E7 (ZK n5),HI rfl,Jl]
 have ht1:H1.get t=some (Lv (.timer none)):=by rw[get1,E7 (ZK n6),E7 (ZK n8)];exact gt
 have hz1:∀p∈zz,H1.get p.1=some (.abs (.pack p.2) false):=fun p hp=>by
  have:=zne p hp;rw[get1,E7 (fun e=>n7 (by rw[<-e];exact this)),E7 (fun e=>n9 (by rw[<-e];exact this))];exact gz p hp
 have rc:∀{K:AA},K.get d=some (ND c t n 0 false)->JW K [d] c:=fun g=> .next (.here (by simp)) g (by simp[IK,Au,At,ND])
 have rR:∀{K:AA},K.get d=some (ND c t n 0 false)->K.get c=some (.cells [.slice (some ⟨R,0,some 0⟩) (n+2) Aa] 0 false)->JW K [d] R:=fun g g2=> .next (rc g) g2 (by simp[IK,Au])
 refine .members R zz [d] hR1 (fun p hp=>⟨hz1 p hp,hzx p hp⟩) (by rw[hzl];exact n11) (by intro e;rw[e]at hlen;cases hlen) (fun b hb=>by rw[I6]at hb;rw[hb];exact hA) (fun p hp=> .next (rR hd1 hc1) hR1 ?_) fun hlt=>?_
 ·show p.1∈(Ag [.tok] _).flatMap (Au 4);rw[D9];exact List.mem_flatMap.2 ⟨.pointer (some ⟨p.1,0,none⟩),List.mem_map.2 ⟨p,hp,rfl⟩,by simp[Au]⟩
 have al:∀x,x < H1.next->(H1.alloc (.abs (.Bl []) false)).get x=H1.get x:=fun x hx=>by rw[AA.AM,E7 (AAt hx)]
 obtain⟨k1,k2,k3,k4⟩:=QN (r:=R) zz H1.next [] (H1.alloc (.abs (.Bl []) false)) (fun x o hx=>by
  rw[AA.AM]at hx;show x < H1.next+1
  by_cases e:x=H1.next
  ·omega
  ·rw[E7 e]at hx;have:=hlt _ _ hx;omega) (by rw[AA.AM,HI rfl]) (by rw[al R (hlt _ _ hR1)];exact hR1) (fun p hp=>by rw[al _ (hlt _ _ (hz1 p hp))];exact hz1 p hp) (by rw[hzl];exact n11)
 generalize hA2:Ep R zz H1.next [] (H1.alloc (.abs (.Bl []) false))=A at k1 k2 k3 k4 ⊢;obtain⟨a,H2⟩:=A;simp only at k1 k2 k3 k4 ⊢;have hage:H1.next<=a:=by
  rcases k4 with k4 | k4
  ·omega
  ·exact AAf (ACL _) k4
 have DG:∀x o,H1.get x=some o->x≠R->x∉zs->H2.get x=some o:=fun x o hx h1 h2=>by
  have hl:=hlt _ _ hx;rw[k3 x h1 (by omega) (by rw[hzl];exact h2) (show x < H1.next+1 by omega),al x hl];exact hx
 have hd2:=DG d _ hd1 n2 n4;have hc2:=DG c _ hc1 n5 n7;have ht2:=DG t _ ht1 (ZK n8) n10;have hdl:=hlt _ _ hd1;have hcl:=hlt _ _ hc1;have hRl:=hlt _ _ hR1;have htl:=hlt _ _ ht1;have hat:ml c R a L H2:=by
  refine⟨by simp only[fg,WL,YC,AAw,ABw,aG,dM,not_false_eq_true];exact⟨⟨n5,by omega⟩,by omega⟩,?_,?_,?_⟩
  ·rw[hc2];unfold Uw Ao;rw[hL,Dh]
  ·rw[k1,Yf,hL];simp only[ABO,Hq,hlen]
  ·rw[k2,hzs];rfl
 obtain⟨objs,q1,q2,q3,q4,q5,q6⟩:=cJ (by omega) (by omega) hat
 refine Told.wG [c,R,a] q1 rfl q2 hA (rc hd2) q3 q4 q5 q6 fun H3 h3 h4=>?_
 have hd3:H3.get d=some (ND c t n 0 false):=by rw[h3 d (by simp only[WL,YC,AAw,ABw];exact⟨n1,n2,by omega⟩)];exact hd2
 have ht3:H3.get t=some (Lv (.timer none)):=by rw[h3 t (by simp only[WL,YC,AAw,ABw];exact⟨ZK n6,ZK n8,by omega⟩)];exact ht2
 obtain⟨objs,q1,q2,q3,q4,q5,q6⟩:=eS (d:=d) (a:=c) (b:=t) (s:=⟨L,none,n,0,false⟩) (H:=H3) ⟨by show(2:Int)<=n;omega,by show(n:Int)<=32;omega,by show(L.length:Int)=n+2;omega,fun p hp=>by cases hp⟩ (by simp only[fg,WL,YC,AAw,ABw,aG,dM,not_false_eq_true];exact⟨⟨n1,n3⟩,n6⟩) (by rw[hd3,h4,ht3];rfl);exact Told.pO [d,c,t] q1 rfl q2 hA q3 q4 q5 q6 fun H4 _ h5=>next H4 h5
def ZV (args:AL) (objs:BN):GT:=match args,objs with
 | [.int .i64 n,.int .i64 s],[]=> .ask (2<=n/\n<=32/\1<=s/\s<=8192) (.ret ⟨.tuple ⟨[At 20,int 0]⟩,[],[.abs (.pack (.dev ⟨(nf n.toNat s).map fun a=>⟨a,0,[]⟩,none,n,0,false⟩)) false]⟩)
 | _,_=> .fail
theorem Wy {K:Prop} (hK:K):∀l:Ad,(∀a∈l,1<=a/\a<=8192)->jx K l
 | [],_=>hK
 | a::l,h=>⟨h a (bB ..),Wy hK l fun b hb=>h b (ZH _ hb)⟩
theorem gg {K:Prop} (hK:K):∀l:AW,xx K l
 | []=>hK
 | _::l=>⟨rfl,gg hK l⟩
theorem UR (n:Nat) (s:Int):(nf n s).length=n+2:=by unfold nf;simp
theorem a8 (n:Nat):(dq n).length=n+2:=by unfold dq;simp
theorem gP (n:Nat):((Ny n+2)::24::Ny n::(Ny n+1)::dq n).Nodup:=by
 have hm:∀x∈dq n,25<=x/\x < Ny n:=fun x hx=>by
  unfold dq at hx;obtain⟨i,hi,rfl⟩:=List.mem_map.1 hx;have:=List.mem_range.1 hi;unfold Ny;omega
 have hn:(dq n).Nodup:=by
  unfold dq;rw[List.nodup_iff_pairwise_ne,List.pairwise_map];exact(List.nodup_iff_pairwise_ne.1 List.nodup_range).imp fun h e=>h (by omega)
 have h24:24 < Ny n:=by unfold Ny;omega
 simp only[fg,WL,ABw];exact⟨⟨by omega,by omega,by omega,fun h=>by have:=hm _ h;omega⟩,⟨by omega,by omega,fun h=>by have:=hm _ h;omega⟩,⟨by omega,fun h=>by have:=hm _ h;omega⟩,fun h=>by have:=hm _ h;omega,hn⟩
theorem aT {H:AA}:∀(zs:AW) (l:Ad) (x:Option AP),zs.length=l.length->zs.map H.get++[x]=l.map (fun a=>some (.abs (.pack (.CJ ⟨a,0,[]⟩)) false))++[x]->∀p∈zs.zip ((l.map fun a=>(⟨a,0,[]⟩:AS)).map Pk.CJ),H.get p.1=some (.abs (.pack p.2) false)
 | [],[],_,_,_,p,hp=>by cases hp
 | z::zs,a::l,x,hl,h,p,hp=>by
  simp only[T6,AAm,JB]at h;simp only[T6,List.zip_cons_cons,WL]at hp;rcases hp with rfl | hp
  ·exact h.1
  ·exact aT zs l x (by simpa using hl) h.2 p hp
 | [],_::_,_,hl,_,_,_=>by cases hl
 | _::_,[],_,hl,_,_,_=>by cases hl
theorem bw:CY Tryz.prog AI EL (Ai AI 20 [] ZV):=by
 refine BF yc.all (by kernel_rfl) (n:=BD EL) (by kernel_rfl) (by kernel_rfl) fun argsc objs x hx hro=>?_
 clear hro;unfold ZV at hx;split at hx
 ·rename_i n s;refine⟨VC (by kernel_rfl),Ak.OE ?_⟩;simp only[GT.run]at hx;split at hx
  ·rename_i h;cases hx
   obtain⟨h2,h32,hs,hs2⟩:=h;obtain⟨m,rfl⟩:∃m:Nat,n=m:=⟨n.toNat,by omega⟩
   have hm2:2<=m:=by omega
   have hm32:m<=32:=by omega
   have hv:CU XW (Ax cW) [] EL (24::Ny m::(Ny m+1)::dq m) 20 (fun v os=>v= .tuple ⟨[At (Ny m+2),int 0]⟩/\os=xY m s) 8000 (st EL [int m,int s] (hp [])):=by
    rw[fV m hm2 hm32];exact gg (Wy ⟨rfl,rfl⟩ _ fun a ha=>by
     unfold nf at ha;rcases List.mem_append.1 ha with ha | ha
     ·rw[List.mem_replicate]at ha;omega
     ·simp only[WL,YC,AAw]at ha;omega) _
   refine Ak.mono (AX.Fh (BK yc.pf (by kernel_rfl) hv)) fun v H ⟨e,hq⟩=>?_
   subst e;have hq:H.get 24::H.get (Ny m)::H.get (Ny m+1)::((dq m++[Ny m+2]).map H.get)=xY m s:=hq;unfold xY at hq;rw[ABq]at hq;simp only[JB]at hq;obtain⟨g1,g2,g3,g4⟩:=hq;have gl:H.get (Ny m+2)=some (ND 24 (Ny m+1) m 0 false):=by
    have:=congrArg List.getLast? g4;simpa using this
   have g5:(dq m).map H.get++[some (ND 24 (Ny m+1) m 0 false)]=(nf m s).map (fun a=>some (.abs (.pack (.CJ ⟨a,0,[]⟩)) false))++[some (ND 24 (Ny m+1) m 0 false)]:=by
    rw[<-g4,<-gl];rfl
   refine o5 (d:=Ny m+2) (c:=24) (R:=Ny m) (t:=Ny m+1) (n:=m) (L:=(nf m s).map fun a=>⟨a,0,[]⟩) (zs:=dq m) hm2 hm32 (by rw[cw,UR]) (by rw[cw,UR,a8]) (gP m) gl g1 g2 g3 (aT _ _ _ (by rw[UR,a8]) g5) (.inl (by simp[Au,At])) fun H2 g=> .here ?_
   refine⟨[Ny m+2],by simp,fun b hb=>by rw[I6]at hb;rw[hb];show 20+0<=_;unfold Ny;omega,rfl,rfl,fun j b o hb ho=>?_,fun j o hj=>(by cases hj)⟩;cases j with
   | zero=>cases hb;cases ho;exact⟨_,rfl,g⟩
   | succ j=>cases hb
  ·cases hx
 ·cases hx
def jR (args:AL) (objs:BN):GT:=match args,objs with
 | [.agg ⟨[.int .i64 k,.int .i64 q,.string a,.string b]⟩,.int .i64 s,.int .i64 o],[]=> .ask (L6 k q a b s o=true) (.ret ⟨.tuple ⟨[G6 q a (k==2) s o (Bu a b),int 0]⟩,[],[]⟩)
 | _,_=> .fail
def jo (args:AL) (objs:BN):GT:=match args,objs with
 | [.agg ⟨[.int .i64 k,.int .i64 q,.string a,.string b]⟩],[]=> .ask (DR k q a b=true) (.ret ⟨.tuple ⟨[Ao 20 (Bu a b),int 0]⟩,[],[.vec kB (E3 k q a b) false]⟩)
 | _,_=> .fail
theorem cj:∀a o x,(jR a o).run=some x->(TX a o).run=some x:=by
 intro a o x hx;unfold jR at hx;unfold TX;split at hx
 ·simp only[GT.run]at hx ⊢;split at hx
  ·rename_i h;rw[h];exact hx
  ·cases hx
 ·cases hx
theorem dV:∀a o x,(jo a o).run=some x->(VV a o).run=some x:=by
 intro a o x hx;unfold jo at hx;unfold VV;split at hx
 ·simp only[GT.run]at hx ⊢;split at hx
  ·rename_i h;rw[h];exact hx
  ·cases hx
 ·cases hx
def iT:Gk:=fun p rest os=>match p,rest,os with
 | .dev d,[.int .i64 i],[]=> .ask ((De d i).1=0) (.ret ⟨int 0,.dev (De d i).2,[]⟩)
 | _,_,_=> .fail
theorem dU:∀a o x,(CX 20 iT a o).run=some x->(CX 20 (TB Cn fun _=>false) a o).run=some x:=IU fun s rest os x hx=>by
 unfold iT at hx;unfold TB;split at hx
 ·rename_i d i;simp only[PT.gt,GT.run]at hx ⊢;split at hx
  ·rename_i h;show some _=some _;unfold De at hx h;rw[h];exact hx
  ·cases hx
 ·simp only[PT.gt,GT.run]at hx;cases hx
def Ur:List GA:=[GQ EL [] ZV,(Cy,Ai AI 20 [] TX,Cs AI 20 [] jR),(CS,Ai AI 20 [] VV,Cs AI 20 [] jo),
 (DQ,Ai AI 20 [true] (CX 20 (HK fun m=>m.b.length)),Cs AI 20 [true] (CX 20 oa)),GQ By [true] (CX 20 Pv),
 (CI,Ai AI 20 [true] (CX 20 (TB Cn fun _=>false)),Cs AI 20 [true] (CX 20 iT))]
theorem dr:Ci Ur:= .cons bw <| .OG Ve cj <| .OG fe dV <| .OG Sz Ws <| .cons Sl <| .OG RE dU .nil
abbrev UQ:Ctx:=Bp Tryz.prog AI (Cv Ur)
abbrev JQ:EK:=[.int .u8,.int .u8,.int .u8,.bool,.bool]
abbrev B2:=Int × Int × Int × Bool × Bool
def Il (fn:FuncId) (i:Nat) (c:BT):Bool:=match c with
 | ⟨⟨f,_,_,.code (.seq (.region j _ _) _)::_,_,r,_,_⟩,cs,_⟩=> !r&&Nat.beq f fn&&Nat.beq cs.length 0&&Nat.beq j i
 | _=>false
def No:Stop:=⟨AF,0,3,21,[20],[3,5,29,30,31]⟩
def mJ:Stop:=⟨AF,0,3,21,[20],[3,5,6,7,29,30,31]⟩
def uV:Stop:=⟨AF,0,3,21,[20],[3,5,7,8,9,29,30,31]⟩
def xr (z:Nat) (L:Nat->Aw) (u:Nat->Int):AP:= .cells [At 21,Ao z (L 0).length,Ao (z+1) (L 1).length,Ao (z+2) (L 2).length,Ao (z+3) (L 3).length,Ao (z+4) (L 4).length,int (u 0),int (u 1),int (u 2),int (u 3),int (u 4)] 0 false
def Xj (L:Nat->Aw):BN:=[.vec Ah (L 0) false,.vec Ah (L 1) false,.vec Ah (L 2) false,.vec Ah (L 3) false,.vec Ah (L 4) false]
def Tu:List B9:=[.inLoop (A9 Tryz.prog AF [1,1,1,1,0,1,0,0]),.inBlock 0,.code (A9 Tryz.prog AF [1,1,1,1,1])]
def vU (p q:AW):List B9:= .code (A9 Tryz.prog AF p):: .code (A9 Tryz.prog AF q):: .inBlock 1:: .code (A9 Tryz.prog AF [1,1,1,1,0,1,0,0,1,1,1])::Tu
def pC (a b c:Int) (e f:Bool):AP:= .cells [.int .u8 a,.int .u8 b,.int .u8 c,.bool e,.bool f] 0 false
def jl (d:Ab) (L:Nat->Aw) (u:Nat->Int) (l:List B2) (k:Nat) (i:Int):BT:=
 ⟨⟨AF,EZ [(3,At 21),(5,At 22),(29,Ao 20 k),(30,int k),(31,int i)],BD AF,.code (A9 Tryz.prog AF [1,1,1,1,0,1,0,0])::Tu,[],false,.normal,none⟩,[],
  hp ([.vec JQ l true,.abs (.pack (.dev d)) false,xr 23 L u]++Xj L)⟩
def vz (d:Ab) (L:Nat->Aw) (u:Nat->Int) (l:List B2) (k:Nat) (i:Int) (a b c:Int) (e f:Bool):BT:=
 ⟨⟨AF,EZ [(3,At 21),(5,At 22),(6,int i),(7,At 23),(29,Ao 20 k),(30,int k),(31,int i)],BD AF,vU [1,1,1,1,0,1,0,0,1,1,0,0,1,0] [1,1,1,1,0,1,0,0,1,1,0,0,1,1],[],false,.normal,none⟩,[],
  hp ([.vec JQ l true,.abs (.pack (.dev d)) false,xr 24 L u,pC a b c e f]++Xj L)⟩
def TW (d:Ab) (L:Nat->Aw) (u:Nat->Int) (l:List B2) (k:Nat) (i:Int) (a b c:Int) (e f:Bool) (s kd q:Int) (ky vl:As):BT:=
 ⟨⟨AF,EZ [(3,At 21),(5,At 22),(7,At 23),(8,At 24),(9,int s),(29,Ao 20 k),(30,int k),(31,int i)],BD AF,vU [1,1,1,1,0,1,0,0,1,1,0,0,1,1,1,1,0] [1,1,1,1,0,1,0,0,1,1,0,0,1,1,1,1,1],[],false,.normal,none⟩,[],
  hp ([.vec JQ l true,.abs (.pack (.dev d)) false,xr 25 L u,pC a b c e f,.cells [int kd,int q,.string ky,.string vl] 0 false]++Xj L)⟩
theorem uT (d:Ab) (L:Nat->Aw) (u:Nat->Int) (l:List B2) (k:Nat) (i:Int) (Q:Bm) (R R2:Bz):NH UQ (Ax Ur) [] AF [20] No (fun c=>No.here c) mJ (fun c=>Il AF 8 c) [] Q R R2 900 (jl d L u l k i)=(
 let a:=List.getD l (0+i.toNat) (EK.BL JQ);(bif decide (i < (k:Int))then(bif decide (0<=i)&&Nat.blt i.toNat k then(bif Nat.blt (0+i.toNat) l.length then(R2 (vz d L u l k i a.1 a.2.1 a.2.2.1 a.2.2.2.1 a.2.2.2.2))else False)else False)else(Q (At 22) [some (.vec JQ l true),some (.cells [(At 21),(Ao 23 (L 0).length),(Ao 24 (L 1).length),(Ao 25 (L 2).length),(Ao 26 (L 3).length),(Ao 27 (L 4).length),(int (u 0)),(int (u 1)),(int (u 2)),(int (u 3)),(int (u 4))] 0 false)]))):=by kernel_rfl
theorem sM (d:Ab) (L:Nat->Aw) (u:Nat->Int) (l:List B2) (k:Nat) (i:Int) (a b c:Int) (e f:Bool) (Q:Bm) (R R2:Bz):NH UQ (Ax Ur) [] AF [20] No (fun c=>No.here c) uV (fun c=>Il AF 12 c) [] Q R R2 900 (vz d L u l k i a b c e f)=(
 let O:Value:= .string ({ data:=#[97] });let N:Value:= .string ({ data:=#[98] });let M:Value:= .int IntKind.u8 (Int.tmod b 4);let K:Value:= .pointer (some ⟨23,1,none⟩);let J:Value:= .string ({ data:=#[122,45,57] });let I:Value:= .string ({ data:=#[107,101,121,46,50] });let H:=((At 29):Value);let G:=Int.tmod c 40<=Int.tmod c 40;let F:=Int.tmod c 40<=140737488355328;let y:Value:= .pointer (some ⟨29,1,none⟩);let x:Value:= .pointer (some ⟨29,2,none⟩);let w:Value:= .pointer (some ⟨29,3,none⟩);let v:=Int.tmod c 40;let r:=((int i):Value)=(int i);let p:=List.replicate v.toNat (0:Int);let o:=((.int IntKind.u8 b):Value)=(.int IntKind.u8 b);let n:=IntKind.wrap .i64 (Int.tmod a 5);let m:=(M:Value)=M;let j:=(K:Value)=K;let h:=Fy (List.take v.toNat (List.drop 0 p));let g:=IntKind.wrap .i64 (i+1);let E:Prop:=R2 (TW d L u l k i a b c e f n 1 g ({ data:=#[97] }) h);let D:Prop:=R2 (TW d L u l k i a b c e f n 1 g ({ data:=#[98] }) h);let C:Prop:=R2 (TW d L u l k i a b c e f n 1 g ({ data:=#[122,45,57] }) h);let B:Prop:=R2 (TW d L u l k i a b c e f n 2 g ({ data:=#[97] }) ({ data:=#[] }));let A:Prop:=R2 (TW d L u l k i a b c e f n 2 g ({ data:=#[98] }) ({ data:=#[] }));let z:Prop:=R2 (TW d L u l k i a b c e f n 1 g ({ data:=#[107,101,121,46,50] }) h);let t:Prop:=R2 (TW d L u l k i a b c e f n 2 g ({ data:=#[122,45,57] }) ({ data:=#[] }));let s:Prop:=R2 (TW d L u l k i a b c e f n 2 g ({ data:=#[107,101,121,46,50] }) ({ data:=#[] }));let q:=((int g):Value)=(int g);(bif Int.tmod b 4==3 then(bif decide (0<=Int.tmod c 40)&&decide G&&decide F then((J:Value)=J)/\(bif Int.tmod b 4==3 then((w:Value)=w)/\m/\o/\j/\q/\r/\(bif Nat.ble (0+v.toNat) p.length then(bif e then t else C)else False)else(bif Int.tmod b 4==2 then((x:Value)=w)/\m/\o/\j/\q/\r/\(bif Nat.ble (0+v.toNat) p.length then(bif e then t else C)else False)else(bif Int.tmod b 4==1 then((y:Value)=w)/\m/\o/\j/\q/\r/\(bif Nat.ble (0+v.toNat) p.length then(bif e then t else C)else False)else(bif Int.tmod b 4==0 then(H=w)/\m/\o/\j/\q/\r/\(bif Nat.ble (0+v.toNat) p.length then(bif e then t else C)else False)else False))))else False)else(bif Int.tmod b 4==2 then(bif decide (0<=Int.tmod c 40)&&decide G&&decide F then((I:Value)=I)/\(bif Int.tmod b 4==3 then((w:Value)=x)/\m/\o/\j/\q/\r/\(bif Nat.ble (0+v.toNat) p.length then(bif e then s else z)else False)else(bif Int.tmod b 4==2 then((x:Value)=x)/\m/\o/\j/\q/\r/\(bif Nat.ble (0+v.toNat) p.length then(bif e then s else z)else False)else(bif Int.tmod b 4==1 then((y:Value)=x)/\m/\o/\j/\q/\r/\(bif Nat.ble (0+v.toNat) p.length then(bif e then s else z)else False)else(bif Int.tmod b 4==0 then(H=x)/\m/\o/\j/\q/\r/\(bif Nat.ble (0+v.toNat) p.length then(bif e then s else z)else False)else False))))else False)else(bif Int.tmod b 4==1 then(bif decide (0<=Int.tmod c 40)&&decide G&&decide F then((N:Value)=N)/\(bif Int.tmod b 4==3 then((w:Value)=y)/\m/\o/\j/\q/\r/\(bif Nat.ble (0+v.toNat) p.length then(bif e then A else D)else False)else(bif Int.tmod b 4==2 then((x:Value)=y)/\m/\o/\j/\q/\r/\(bif Nat.ble (0+v.toNat) p.length then(bif e then A else D)else False)else(bif Int.tmod b 4==1 then((y:Value)=y)/\m/\o/\j/\q/\r/\(bif Nat.ble (0+v.toNat) p.length then(bif e then A else D)else False)else(bif Int.tmod b 4==0 then(H=y)/\m/\o/\j/\q/\r/\(bif Nat.ble (0+v.toNat) p.length then(bif e then A else D)else False)else False))))else False)else(bif Int.tmod b 4==0 then(bif decide (0<=Int.tmod c 40)&&decide G&&decide F then((O:Value)=O)/\(bif Int.tmod b 4==3 then((w:Value)=(At 29))/\m/\o/\j/\q/\r/\(bif Nat.ble (0+v.toNat) p.length then(bif e then B else E)else False)else(bif Int.tmod b 4==2 then((x:Value)=(At 29))/\m/\o/\j/\q/\r/\(bif Nat.ble (0+v.toNat) p.length then(bif e then B else E)else False)else(bif Int.tmod b 4==1 then((y:Value)=(At 29))/\m/\o/\j/\q/\r/\(bif Nat.ble (0+v.toNat) p.length then(bif e then B else E)else False)else(bif Int.tmod b 4==0 then(H=(At 29))/\m/\o/\j/\q/\r/\(bif Nat.ble (0+v.toNat) p.length then(bif e then B else E)else False)else False))))else False)else False))))):=by kernel_rfl
def Xa (o:AP) (n0 n1 n2 n3 n4:Nat) (L0 L1 L2 L3 L4:Aw) (u0 u1 u2 u3 u4:Int) (l:List B2) (k:Nat) (i:Int):BT:=
 ⟨⟨AF,EZ [(3,At 21),(5,At 22),(29,Ao 20 k),(30,int k),(31,int i)],BD AF,.code (A9 Tryz.prog AF [1,1,1,1,0,1,0,0])::Tu,[],false,.normal,none⟩,[],
  hp [.vec JQ l true,o,.cells [At 21,Ao 23 n0,Ao 24 n1,Ao 25 n2,Ao 26 n3,Ao 27 n4,int u0,int u1,int u2,int u3,int u4] 0 false,.vec Ah L0 false,.vec Ah L1 false,.vec Ah L2 false,.vec Ah L3 false,.vec Ah L4 false]⟩
theorem tn (d:Ab) (L:Nat->Aw) (u:Nat->Int) (l:List B2) (k:Nat) (i:Int) (a b c:Int) (e f:Bool) (kd q:Int) (ky vl:As) (Q:Bm) (R:Bz):Iy UQ (Ax Ur) [] AF [20] No [] Q R 900 (TW d L u l k i a b c e f 0 kd q ky vl)=(
 let p:Value:= .pointer (some ⟨22,1,none⟩);let o:=((At 22):Value)=(At 22);let n:=(L 0).length+1;let m:=IntKind.wrap .i64 (i+1);let h:=List.take (L 0).length (List.drop 0 (L 0))++[(q,ky,kd==2,0,A8 d 0,((Bu ky vl):Int))];let g:=DX d 0 (List.take (Bu ky vl) (E3 kd q ky vl));let j:AP:= .abs (Ct.pack (PL.nx { v:=int g.1,nx:=Pk.dev g.2,news:=[] })) false;((Bool.rec false (J6 vl 512==0) ((kd==1||kd==2&&Jf vl)&& !decide (q < 1)&& !decide (q > 1099511627776)&&I1 ky==0))=(true))/\(Ab.down d=false/\Ba (Ab.BB d) 0=false)/\((Bool.rec false (!decide (A8 d 0 > 8192)) (DR kd q ky vl&& !decide (0 < 0)&& !decide (0≥32)&& !decide (A8 d 0 < 0)))=(true))/\(Bu ky vl<=(E3 kd q ky vl).length)/\(bif g.1 != 0 then(R (Xa j (L 0).length (L 1).length (L 2).length (L 3).length (L 4).length (L 0) (L 1) (L 2) (L 3) (L 4) (u 0) (u 1) (u 2) (u 3) (u 4) l k m))else(bif true&&Nat.ble (0+(L 0).length) (L 0).length&&BQ 56 n then((p:Value)=p)/\o/\(((int 0):Value)=(int 0))/\o/\(bif f then(((De g.2 0).1)=(0))/\(R (Xa (.abs (Ct.pack (PL.nx { v:=int 0,nx:=Pk.dev (De g.2 0).2,news:=[] })) false) n (L 1).length (L 2).length (L 3).length (L 4).length h (L 1) (L 2) (L 3) (L 4) (Int.ofNat n) (u 1) (u 2) (u 3) (u 4) l k m))else(R (Xa j n (L 1).length (L 2).length (L 3).length (L 4).length h (L 1) (L 2) (L 3) (L 4) (u 0) (u 1) (u 2) (u 3) (u 4) l k m)))else False))):=by kernel_rfl
theorem rz (d:Ab) (L:Nat->Aw) (u:Nat->Int) (l:List B2) (k:Nat) (i:Int) (a b c:Int) (e f:Bool) (kd q:Int) (ky vl:As) (Q:Bm) (R:Bz):Iy UQ (Ax Ur) [] AF [20] No [] Q R 900 (TW d L u l k i a b c e f 1 kd q ky vl)=(
 let p:Value:= .pointer (some ⟨22,1,none⟩);let o:=((At 22):Value)=(At 22);let n:=(L 1).length+1;let m:=IntKind.wrap .i64 (i+1);let h:=List.take (L 1).length (List.drop 0 (L 1))++[(q,ky,kd==2,1,A8 d 1,((Bu ky vl):Int))];let g:=DX d 1 (List.take (Bu ky vl) (E3 kd q ky vl));let j:AP:= .abs (Ct.pack (PL.nx { v:=int g.1,nx:=Pk.dev g.2,news:=[] })) false;((Bool.rec false (J6 vl 512==0) ((kd==1||kd==2&&Jf vl)&& !decide (q < 1)&& !decide (q > 1099511627776)&&I1 ky==0))=(true))/\(Ab.down d=false/\Ba (Ab.BB d) 1=false)/\((Bool.rec false (!decide (A8 d 1 > 8192)) (DR kd q ky vl&& !decide (1 < 0)&& !decide (1≥32)&& !decide (A8 d 1 < 0)))=(true))/\(Bu ky vl<=(E3 kd q ky vl).length)/\(bif g.1 != 0 then(R (Xa j (L 0).length (L 1).length (L 2).length (L 3).length (L 4).length (L 0) (L 1) (L 2) (L 3) (L 4) (u 0) (u 1) (u 2) (u 3) (u 4) l k m))else(bif true&&Nat.ble (0+(L 1).length) (L 1).length&&BQ 56 n then((p:Value)=p)/\o/\(((int 1):Value)=(int 1))/\o/\(bif f then(((De g.2 1).1)=(0))/\(R (Xa (.abs (Ct.pack (PL.nx { v:=int 0,nx:=Pk.dev (De g.2 1).2,news:=[] })) false) (L 0).length n (L 2).length (L 3).length (L 4).length (L 0) h (L 2) (L 3) (L 4) (u 0) (Int.ofNat n) (u 2) (u 3) (u 4) l k m))else(R (Xa j (L 0).length n (L 2).length (L 3).length (L 4).length (L 0) h (L 2) (L 3) (L 4) (u 0) (u 1) (u 2) (u 3) (u 4) l k m)))else False))):=by kernel_rfl
theorem qw (d:Ab) (L:Nat->Aw) (u:Nat->Int) (l:List B2) (k:Nat) (i:Int) (a b c:Int) (e f:Bool) (kd q:Int) (ky vl:As) (Q:Bm) (R:Bz):Iy UQ (Ax Ur) [] AF [20] No [] Q R 900 (TW d L u l k i a b c e f 2 kd q ky vl)=(
 let p:Value:= .pointer (some ⟨22,1,none⟩);let o:=((At 22):Value)=(At 22);let n:=(L 2).length+1;let m:=IntKind.wrap .i64 (i+1);let h:=List.take (L 2).length (List.drop 0 (L 2))++[(q,ky,kd==2,2,A8 d 2,((Bu ky vl):Int))];let g:=DX d 2 (List.take (Bu ky vl) (E3 kd q ky vl));let j:AP:= .abs (Ct.pack (PL.nx { v:=int g.1,nx:=Pk.dev g.2,news:=[] })) false;((Bool.rec false (J6 vl 512==0) ((kd==1||kd==2&&Jf vl)&& !decide (q < 1)&& !decide (q > 1099511627776)&&I1 ky==0))=(true))/\(Ab.down d=false/\Ba (Ab.BB d) 2=false)/\((Bool.rec false (!decide (A8 d 2 > 8192)) (DR kd q ky vl&& !decide (2 < 0)&& !decide (2≥32)&& !decide (A8 d 2 < 0)))=(true))/\(Bu ky vl<=(E3 kd q ky vl).length)/\(bif g.1 != 0 then(R (Xa j (L 0).length (L 1).length (L 2).length (L 3).length (L 4).length (L 0) (L 1) (L 2) (L 3) (L 4) (u 0) (u 1) (u 2) (u 3) (u 4) l k m))else(bif true&&Nat.ble (0+(L 2).length) (L 2).length&&BQ 56 n then((p:Value)=p)/\o/\(((int 2):Value)=(int 2))/\o/\(bif f then(((De g.2 2).1)=(0))/\(R (Xa (.abs (Ct.pack (PL.nx { v:=int 0,nx:=Pk.dev (De g.2 2).2,news:=[] })) false) (L 0).length (L 1).length n (L 3).length (L 4).length (L 0) (L 1) h (L 3) (L 4) (u 0) (u 1) (Int.ofNat n) (u 3) (u 4) l k m))else(R (Xa j (L 0).length (L 1).length n (L 3).length (L 4).length (L 0) (L 1) h (L 3) (L 4) (u 0) (u 1) (u 2) (u 3) (u 4) l k m)))else False))):=by kernel_rfl
theorem tv (d:Ab) (L:Nat->Aw) (u:Nat->Int) (l:List B2) (k:Nat) (i:Int) (a b c:Int) (e f:Bool) (kd q:Int) (ky vl:As) (Q:Bm) (R:Bz):Iy UQ (Ax Ur) [] AF [20] No [] Q R 900 (TW d L u l k i a b c e f 3 kd q ky vl)=(
 let p:Value:= .pointer (some ⟨22,1,none⟩);let o:=((At 22):Value)=(At 22);let n:=(L 3).length+1;let m:=IntKind.wrap .i64 (i+1);let h:=List.take (L 3).length (List.drop 0 (L 3))++[(q,ky,kd==2,3,A8 d 3,((Bu ky vl):Int))];let g:=DX d 3 (List.take (Bu ky vl) (E3 kd q ky vl));let j:AP:= .abs (Ct.pack (PL.nx { v:=int g.1,nx:=Pk.dev g.2,news:=[] })) false;((Bool.rec false (J6 vl 512==0) ((kd==1||kd==2&&Jf vl)&& !decide (q < 1)&& !decide (q > 1099511627776)&&I1 ky==0))=(true))/\(Ab.down d=false/\Ba (Ab.BB d) 3=false)/\((Bool.rec false (!decide (A8 d 3 > 8192)) (DR kd q ky vl&& !decide (3 < 0)&& !decide (3≥32)&& !decide (A8 d 3 < 0)))=(true))/\(Bu ky vl<=(E3 kd q ky vl).length)/\(bif g.1 != 0 then(R (Xa j (L 0).length (L 1).length (L 2).length (L 3).length (L 4).length (L 0) (L 1) (L 2) (L 3) (L 4) (u 0) (u 1) (u 2) (u 3) (u 4) l k m))else(bif true&&Nat.ble (0+(L 3).length) (L 3).length&&BQ 56 n then((p:Value)=p)/\o/\(((int 3):Value)=(int 3))/\o/\(bif f then(((De g.2 3).1)=(0))/\(R (Xa (.abs (Ct.pack (PL.nx { v:=int 0,nx:=Pk.dev (De g.2 3).2,news:=[] })) false) (L 0).length (L 1).length (L 2).length n (L 4).length (L 0) (L 1) (L 2) h (L 4) (u 0) (u 1) (u 2) (Int.ofNat n) (u 4) l k m))else(R (Xa j (L 0).length (L 1).length (L 2).length n (L 4).length (L 0) (L 1) (L 2) h (L 4) (u 0) (u 1) (u 2) (u 3) (u 4) l k m)))else False))):=by kernel_rfl
theorem uH (d:Ab) (L:Nat->Aw) (u:Nat->Int) (l:List B2) (k:Nat) (i:Int) (a b c:Int) (e f:Bool) (kd q:Int) (ky vl:As) (Q:Bm) (R:Bz):Iy UQ (Ax Ur) [] AF [20] No [] Q R 900 (TW d L u l k i a b c e f 4 kd q ky vl)=(
 let p:Value:= .pointer (some ⟨22,1,none⟩);let o:=((At 22):Value)=(At 22);let n:=(L 4).length+1;let m:=IntKind.wrap .i64 (i+1);let h:=List.take (L 4).length (List.drop 0 (L 4))++[(q,ky,kd==2,4,A8 d 4,((Bu ky vl):Int))];let g:=DX d 4 (List.take (Bu ky vl) (E3 kd q ky vl));let j:AP:= .abs (Ct.pack (PL.nx { v:=int g.1,nx:=Pk.dev g.2,news:=[] })) false;((Bool.rec false (J6 vl 512==0) ((kd==1||kd==2&&Jf vl)&& !decide (q < 1)&& !decide (q > 1099511627776)&&I1 ky==0))=(true))/\(Ab.down d=false/\Ba (Ab.BB d) 4=false)/\((Bool.rec false (!decide (A8 d 4 > 8192)) (DR kd q ky vl&& !decide (4 < 0)&& !decide (4≥32)&& !decide (A8 d 4 < 0)))=(true))/\(Bu ky vl<=(E3 kd q ky vl).length)/\(bif g.1 != 0 then(R (Xa j (L 0).length (L 1).length (L 2).length (L 3).length (L 4).length (L 0) (L 1) (L 2) (L 3) (L 4) (u 0) (u 1) (u 2) (u 3) (u 4) l k m))else(bif true&&Nat.ble (0+(L 4).length) (L 4).length&&BQ 56 n then((p:Value)=p)/\o/\(((int 4):Value)=(int 4))/\o/\(bif f then(((De g.2 4).1)=(0))/\(R (Xa (.abs (Ct.pack (PL.nx { v:=int 0,nx:=Pk.dev (De g.2 4).2,news:=[] })) false) (L 0).length (L 1).length (L 2).length (L 3).length n (L 0) (L 1) (L 2) (L 3) h (u 0) (u 1) (u 2) (u 3) (Int.ofNat n) l k m))else(R (Xa j (L 0).length (L 1).length (L 2).length (L 3).length n (L 0) (L 1) (L 2) (L 3) h (u 0) (u 1) (u 2) (u 3) (u 4) l k m)))else False))):=by kernel_rfl
def GR {α:Type} (L:Nat->α) (s:Nat) (x:α):Nat->α:=fun i=>bif Nat.beq i s then x else L i
structure PF where
 d:Ab
 L:Nat->Aw
 u:Nat->Int
def EF (st:PF) (s:Nat) (f:Bool) (kd q:Int) (ky vl:As):PF:=
 bif (DX st.d (s:Int) (E3 kd q ky vl)).1 != 0 then⟨(DX st.d (s:Int) (E3 kd q ky vl)).2,st.L,st.u⟩else
 bif f then⟨(De (DX st.d (s:Int) (E3 kd q ky vl)).2 (s:Int)).2,GR st.L s (st.L s++[(q,ky,kd==2,(s:Int),A8 st.d (s:Int),((Bu ky vl:Nat):Int))]),GR st.u s (Int.ofNat (st.L s++[(q,ky,kd==2,(s:Int),A8 st.d (s:Int),((Bu ky vl:Nat):Int))]).length)⟩
 else⟨(DX st.d (s:Int) (E3 kd q ky vl)).2,GR st.L s (st.L s++[(q,ky,kd==2,(s:Int),A8 st.d (s:Int),((Bu ky vl:Nat):Int))]),st.u⟩
structure P7 (st:PF) (s:Nat) (f:Bool) (kd q:Int) (ky vl:As):Prop where
 ok:DR kd q ky vl=true
 dn:st.d.down=false
 bad:Ba st.d.BB (s:Int)=false
 GQ:L6 kd q ky vl (s:Int) (A8 st.d (s:Int))=true
 y4:((DX st.d (s:Int) (E3 kd q ky vl)).1 != 0)=false->f=true->(De (DX st.d (s:Int) (E3 kd q ky vl)).2 (s:Int)).1=0
 ln:(st.L s).length < 1000
theorem NW (A B:Bool) (h:(A&&B)=true):(Bool.rec (motive:=fun _=>Bool) false B A)=true:=by
 cases A<;>exact h
theorem KI (A B:Bool) (h:(A&&B)=true):(Bool.rec (motive:=fun _=>Bool) false B A)=true:=by
 cases A<;>exact h
theorem F0 (d:Ab) (L:Nat->Aw) (u:Nat->Int) (l:List B2) (k:Nat) (i:Int):Xa (.abs (.pack (.dev d)) false) (L 0).length (L 1).length (L 2).length (L 3).length (L 4).length (L 0) (L 1) (L 2) (L 3) (L 4) (u 0) (u 1) (u 2) (u 3) (u 4) l k i=jl d L u l k i:=by kernel_rfl
theorem mv {st:PF} {l:List B2} {k i:Nat} {a b c:Int} {e f:Bool} {kd q:Int} {ky vl:As} (h:P7 st 0 f kd q ky vl) (hi:i < 1000):Iy UQ (Ax Ur) [] AF [20] No [] (fun _ _=>False) (fun c=>c=jl (EF st 0 f kd q ky vl).d (EF st 0 f kd q ky vl).L (EF st 0 f kd q ky vl).u l k ((i+1:Nat):Int)) 900 (TW st.d st.L st.u l k (i:Nat) a b c e f (((0:Nat)):Int) kd q ky vl):=by
 have hw:IntKind.wrap .i64 ((i:Int)+1)=((i+1:Nat):Int):=by rw[wrap64 (by omega) (by omega)];rfl
 have hz:(((0:Nat)):Int)=0:=rfl;obtain⟨h1,h2,h3,h4,h5,h6⟩:=h;obtain⟨d,L,u⟩:=st
 change (L 0).length < 1000 at h6
 rw[hz]at h3 h4 h5 ⊢;rw[tn];(conv=>zeta);rw[hw]
 have et:List.take (Bu ky vl) (E3 kd q ky vl)=E3 kd q ky vl:=HM (by rw[E9];exact CC _);have eL:List.take (L 0).length (List.drop 0 (L 0))=L 0:=by rw[O9,HM (CC _)]
 rw[et,eL];refine⟨NW _ _ h1,⟨h2,h3⟩,KI _ _ h4,by rw[E9];exact CC _,?_⟩;have hc:(true&&Nat.ble (0+(L 0).length) (L 0).length&&BQ 56 ((L 0).length+1))=true:=by
  rw[Hq,B0 (CC _),Lu (by omega)];rfl
 have hlen:(L 0).length+1=(L 0++[(q,ky,kd==2,0,A8 d 0,((Bu ky vl:Nat):Int))]).length:=by rw[Fu];rfl
 unfold EF;rw[hz];refine BX (fun c1=>?_) fun c1=>AB hc ⟨rfl,rfl,rfl,rfl,BX (fun c2=>⟨h5 c1 c2,?_⟩) fun c2=>?_⟩
 ·rw[c1];exact F0 _ L u l k _
 ·rw[c1,c2,hlen];exact F0 _ (GR L 0 _) (GR u 0 _) l k _
 ·rw[c1,c2,hlen];exact F0 _ (GR L 0 _) u l k _
theorem mL {st:PF} {l:List B2} {k i:Nat} {a b c:Int} {e f:Bool} {kd q:Int} {ky vl:As} (h:P7 st 1 f kd q ky vl) (hi:i < 1000):Iy UQ (Ax Ur) [] AF [20] No [] (fun _ _=>False) (fun c=>c=jl (EF st 1 f kd q ky vl).d (EF st 1 f kd q ky vl).L (EF st 1 f kd q ky vl).u l k ((i+1:Nat):Int)) 900 (TW st.d st.L st.u l k (i:Nat) a b c e f (((1:Nat)):Int) kd q ky vl):=by
 have hw:IntKind.wrap .i64 ((i:Int)+1)=((i+1:Nat):Int):=by rw[wrap64 (by omega) (by omega)];rfl
 have hz:(((1:Nat)):Int)=1:=rfl;obtain⟨h1,h2,h3,h4,h5,h6⟩:=h;obtain⟨d,L,u⟩:=st
 change (L 1).length < 1000 at h6
 rw[hz]at h3 h4 h5 ⊢;rw[rz];(conv=>zeta);rw[hw]
 have et:List.take (Bu ky vl) (E3 kd q ky vl)=E3 kd q ky vl:=HM (by rw[E9];exact CC _);have eL:List.take (L 1).length (List.drop 0 (L 1))=L 1:=by rw[O9,HM (CC _)]
 rw[et,eL];refine⟨NW _ _ h1,⟨h2,h3⟩,KI _ _ h4,by rw[E9];exact CC _,?_⟩;have hc:(true&&Nat.ble (0+(L 1).length) (L 1).length&&BQ 56 ((L 1).length+1))=true:=by
  rw[Hq,B0 (CC _),Lu (by omega)];rfl
 have hlen:(L 1).length+1=(L 1++[(q,ky,kd==2,1,A8 d 1,((Bu ky vl:Nat):Int))]).length:=by rw[Fu];rfl
 unfold EF;rw[hz];refine BX (fun c1=>?_) fun c1=>AB hc ⟨rfl,rfl,rfl,rfl,BX (fun c2=>⟨h5 c1 c2,?_⟩) fun c2=>?_⟩
 ·rw[c1];exact F0 _ L u l k _
 ·rw[c1,c2,hlen];exact F0 _ (GR L 1 _) (GR u 1 _) l k _
 ·rw[c1,c2,hlen];exact F0 _ (GR L 1 _) u l k _
theorem oT {st:PF} {l:List B2} {k i:Nat} {a b c:Int} {e f:Bool} {kd q:Int} {ky vl:As} (h:P7 st 2 f kd q ky vl) (hi:i < 1000):Iy UQ (Ax Ur) [] AF [20] No [] (fun _ _=>False) (fun c=>c=jl (EF st 2 f kd q ky vl).d (EF st 2 f kd q ky vl).L (EF st 2 f kd q ky vl).u l k ((i+1:Nat):Int)) 900 (TW st.d st.L st.u l k (i:Nat) a b c e f (((2:Nat)):Int) kd q ky vl):=by
 have hw:IntKind.wrap .i64 ((i:Int)+1)=((i+1:Nat):Int):=by rw[wrap64 (by omega) (by omega)];rfl
 have hz:(((2:Nat)):Int)=2:=rfl;obtain⟨h1,h2,h3,h4,h5,h6⟩:=h;obtain⟨d,L,u⟩:=st
 change (L 2).length < 1000 at h6
 rw[hz]at h3 h4 h5 ⊢;rw[qw];(conv=>zeta);rw[hw]
 have et:List.take (Bu ky vl) (E3 kd q ky vl)=E3 kd q ky vl:=HM (by rw[E9];exact CC _);have eL:List.take (L 2).length (List.drop 0 (L 2))=L 2:=by rw[O9,HM (CC _)]
 rw[et,eL];refine⟨NW _ _ h1,⟨h2,h3⟩,KI _ _ h4,by rw[E9];exact CC _,?_⟩;have hc:(true&&Nat.ble (0+(L 2).length) (L 2).length&&BQ 56 ((L 2).length+1))=true:=by
  rw[Hq,B0 (CC _),Lu (by omega)];rfl
 have hlen:(L 2).length+1=(L 2++[(q,ky,kd==2,2,A8 d 2,((Bu ky vl:Nat):Int))]).length:=by rw[Fu];rfl
 unfold EF;rw[hz];refine BX (fun c1=>?_) fun c1=>AB hc ⟨rfl,rfl,rfl,rfl,BX (fun c2=>⟨h5 c1 c2,?_⟩) fun c2=>?_⟩
 ·rw[c1];exact F0 _ L u l k _
 ·rw[c1,c2,hlen];exact F0 _ (GR L 2 _) (GR u 2 _) l k _
 ·rw[c1,c2,hlen];exact F0 _ (GR L 2 _) u l k _
theorem nh {st:PF} {l:List B2} {k i:Nat} {a b c:Int} {e f:Bool} {kd q:Int} {ky vl:As} (h:P7 st 3 f kd q ky vl) (hi:i < 1000):Iy UQ (Ax Ur) [] AF [20] No [] (fun _ _=>False) (fun c=>c=jl (EF st 3 f kd q ky vl).d (EF st 3 f kd q ky vl).L (EF st 3 f kd q ky vl).u l k ((i+1:Nat):Int)) 900 (TW st.d st.L st.u l k (i:Nat) a b c e f (((3:Nat)):Int) kd q ky vl):=by
 have hw:IntKind.wrap .i64 ((i:Int)+1)=((i+1:Nat):Int):=by rw[wrap64 (by omega) (by omega)];rfl
 have hz:(((3:Nat)):Int)=3:=rfl;obtain⟨h1,h2,h3,h4,h5,h6⟩:=h;obtain⟨d,L,u⟩:=st
 change (L 3).length < 1000 at h6
 rw[hz]at h3 h4 h5 ⊢;rw[tv];(conv=>zeta);rw[hw]
 have et:List.take (Bu ky vl) (E3 kd q ky vl)=E3 kd q ky vl:=HM (by rw[E9];exact CC _);have eL:List.take (L 3).length (List.drop 0 (L 3))=L 3:=by rw[O9,HM (CC _)]
 rw[et,eL];refine⟨NW _ _ h1,⟨h2,h3⟩,KI _ _ h4,by rw[E9];exact CC _,?_⟩;have hc:(true&&Nat.ble (0+(L 3).length) (L 3).length&&BQ 56 ((L 3).length+1))=true:=by
  rw[Hq,B0 (CC _),Lu (by omega)];rfl
 have hlen:(L 3).length+1=(L 3++[(q,ky,kd==2,3,A8 d 3,((Bu ky vl:Nat):Int))]).length:=by rw[Fu];rfl
 unfold EF;rw[hz];refine BX (fun c1=>?_) fun c1=>AB hc ⟨rfl,rfl,rfl,rfl,BX (fun c2=>⟨h5 c1 c2,?_⟩) fun c2=>?_⟩
 ·rw[c1];exact F0 _ L u l k _
 ·rw[c1,c2,hlen];exact F0 _ (GR L 3 _) (GR u 3 _) l k _
 ·rw[c1,c2,hlen];exact F0 _ (GR L 3 _) u l k _
theorem nj {st:PF} {l:List B2} {k i:Nat} {a b c:Int} {e f:Bool} {kd q:Int} {ky vl:As} (h:P7 st 4 f kd q ky vl) (hi:i < 1000):Iy UQ (Ax Ur) [] AF [20] No [] (fun _ _=>False) (fun c=>c=jl (EF st 4 f kd q ky vl).d (EF st 4 f kd q ky vl).L (EF st 4 f kd q ky vl).u l k ((i+1:Nat):Int)) 900 (TW st.d st.L st.u l k (i:Nat) a b c e f (((4:Nat)):Int) kd q ky vl):=by
 have hw:IntKind.wrap .i64 ((i:Int)+1)=((i+1:Nat):Int):=by rw[wrap64 (by omega) (by omega)];rfl
 have hz:(((4:Nat)):Int)=4:=rfl;obtain⟨h1,h2,h3,h4,h5,h6⟩:=h;obtain⟨d,L,u⟩:=st
 change (L 4).length < 1000 at h6
 rw[hz]at h3 h4 h5 ⊢;rw[uH];(conv=>zeta);rw[hw]
 have et:List.take (Bu ky vl) (E3 kd q ky vl)=E3 kd q ky vl:=HM (by rw[E9];exact CC _);have eL:List.take (L 4).length (List.drop 0 (L 4))=L 4:=by rw[O9,HM (CC _)]
 rw[et,eL];refine⟨NW _ _ h1,⟨h2,h3⟩,KI _ _ h4,by rw[E9];exact CC _,?_⟩;have hc:(true&&Nat.ble (0+(L 4).length) (L 4).length&&BQ 56 ((L 4).length+1))=true:=by
  rw[Hq,B0 (CC _),Lu (by omega)];rfl
 have hlen:(L 4).length+1=(L 4++[(q,ky,kd==2,4,A8 d 4,((Bu ky vl:Nat):Int))]).length:=by rw[Fu];rfl
 unfold EF;rw[hz];refine BX (fun c1=>?_) fun c1=>AB hc ⟨rfl,rfl,rfl,rfl,BX (fun c2=>⟨h5 c1 c2,?_⟩) fun c2=>?_⟩
 ·rw[c1];exact F0 _ L u l k _
 ·rw[c1,c2,hlen];exact F0 _ (GR L 4 _) (GR u 4 _) l k _
 ·rw[c1,c2,hlen];exact F0 _ (GR L 4 _) u l k _
def rl (n s:Int):Ab:=⟨(nf n.toNat s).map fun a=>⟨a,0,[]⟩,none,n,0,false⟩
def Mc (m:Nat):Nat:=Int.toNat (if (50:Int) < Int.ofNat m then 50 else Int.ofNat m) - 0
def yC (d:Ab) (l:List B2) (k:Nat):BT:=
 ⟨⟨AF,EZ [(3,At 21),(5,At 22),(29,Ao 20 k),(30,int k),(31,int 0)],BD AF,.code (A9 Tryz.prog AF [1,1,1,1,0,1,0,0])::Tu,[],false,.normal,none⟩,[],
  hp [.vec JQ l true,.abs (.pack (.dev d)) false,.cells [At 21,.slice none 0 0,.slice none 0 0,.slice none 0 0,.slice none 0 0,.slice none 0 0,int 0,int 0,int 0,int 0,int 0] 0 false]⟩
theorem ti (l:List B2) (m:Nat) (Q:Bm) (R:Bz):Iy UQ (Ax Ur) [] AF [20] No [] Q R 900 (st AF [Ao 20 m] (hp [.vec JQ l true]))=(
 let a:=if 50 < Int.ofNat m then 50 else Int.ofNat m;((2:Int)<=5/\(5:Int)<=32/\(1:Int)<=600/\(600:Int)<=8192)/\(bif decide (0<=if 50 < Int.ofNat m then 50 else Int.ofNat m)&&Nat.ble a.toNat m&&decide (0<=0)&&Nat.ble 0 a.toNat then(R (yC (rl 5 600) l (Mc m)))else False)):=by kernel_rfl
def Fq (m:Int):As:=if m=0 then { data:=#[97] } else if m=1 then { data:=#[98] } else if m=2 then { data:=#[107,101,121,46,50] } else { data:=#[122,45,57] }
def ZG (c:Int):As:=Fy (List.take (Int.toNat (Int.tmod c 40)) (List.drop 0 (List.replicate (Int.toNat (Int.tmod c 40)) (0:Int))))
structure Ld (p:B2):Prop where
 a0:0<=p.1
 a1:p.1 < 256
 b0:0<=p.2.1
 b1:p.2.1 < 256
 c0:0<=p.2.2.1
 c1:p.2.2.1 < 256
def DZ (p:B2):Nat:=(Int.tmod p.1 5).toNat
def M1 (p:B2):Int:=bif p.2.2.2.1 then 2 else 1
def LO (p:B2):As:=bif p.2.2.2.1 then { data:=#[] } else ZG p.2.2.1
theorem MJ {b m:Int} (h0:0<=b) (hn:0 < m):0<=Int.tmod b m/\Int.tmod b m < m:=by
 rw[ABx h0];exact⟨Int.emod_nonneg _ (by omega),Int.emod_lt_of_pos _ hn⟩
theorem js {d:Ab} {L:Nat->Aw} {u:Nat->Int} {l:List B2} {k:Nat} {i:Int} {p:B2} (hp:Ld p):
 NH UQ (Ax Ur) [] AF [20] No (fun c=>No.here c) uV (fun c=>Il AF 12 c) [] (fun _ _=>False) (fun _=>False) (fun c=>c=TW d L u l k i p.1 p.2.1 p.2.2.1 p.2.2.2.1 p.2.2.2.2 ((DZ p:Nat):Int) (M1 p) (IntKind.wrap .i64 (i+1)) (Fq (Int.tmod p.2.1 4)) (LO p)) 900 (vz d L u l k i p.1 p.2.1 p.2.2.1 p.2.2.2.1 p.2.2.2.2):=by
 obtain⟨a,b,c,e,f⟩:=p;obtain⟨a0,a1,b0,b1,c0,c1⟩:=hp;simp only at a0 a1 b0 b1 c0 c1;obtain⟨m0,m1⟩:=MJ (m:=4) b0 (by decide);obtain⟨n0,n1⟩:=MJ (m:=40) c0 (by decide);obtain⟨r0,r1⟩:=MJ (m:=5) a0 (by decide);have hs:IntKind.wrap .i64 (Int.tmod a 5)=((DZ (a,b,c,e,f):Nat):Int):=by
  unfold DZ;rw[wrap64 (by omega) (by omega)];show Int.tmod a 5=(((Int.tmod a 5).toNat:Nat):Int);omega
 rw[sM];(conv=>zeta);rw[hs]
 have t1:(decide (0<=Int.tmod c 40)&&decide (Int.tmod c 40<=Int.tmod c 40)&&decide (Int.tmod c 40<=140737488355328))=true:=by
  rw[Fp n0,Fp (AAv _),Fp (show Int.tmod c 40<=140737488355328 by omega)];rfl
 have t2:Nat.ble (0+Int.toNat (Int.tmod c 40)) (List.length (List.replicate (Int.toNat (Int.tmod c 40)) (0:Int)))=true:=by
  rw[Xu,Hq];exact B0 (CC _)
 rw[t1,t2];rcases(show Int.tmod b 4=0∨Int.tmod b 4=1∨Int.tmod b 4=2∨Int.tmod b 4=3 by omega)with hb | hb | hb | hb
 all_goals
  rw[hb];show bif _ then _ else _
  cases e
  all_goals
   repeat' first
    | exact rfl
    | refine⟨rfl,?_⟩
    | refine AZ rfl ?_
    | refine AB rfl ?_
theorem tk (d:Ab) (L:Nat->Aw) (u:Nat->Int) (l:List B2) (k:Nat) (i:Int) (Q:Bm) (R R2:Bz):NH UQ (Ax Ur) [] AF [20,21,23,24,25,26,27] No (fun c=>No.here c) mJ (fun c=>Il AF 8 c) [] Q R R2 900 (jl d L u l k i)=(
 let a:=List.getD l (0+i.toNat) (EK.BL JQ);(bif decide (i < (k:Int))then(bif decide (0<=i)&&Nat.blt i.toNat k then(bif Nat.blt (0+i.toNat) l.length then(R2 (vz d L u l k i a.1 a.2.1 a.2.2.1 a.2.2.2.1 a.2.2.2.2))else False)else False)else(Q (At 22) [some (.vec JQ l true),some (.abs (Ct.pack (Pk.dev d)) false),some (.vec Ah (L 0) false),some (.vec Ah (L 1) false),some (.vec Ah (L 2) false),some (.vec Ah (L 3) false),some (.vec Ah (L 4) false),some (.cells [(At 21),(Ao 23 (L 0).length),(Ao 24 (L 1).length),(Ao 25 (L 2).length),(Ao 26 (L 3).length),(Ao 27 (L 4).length),(int (u 0)),(int (u 1)),(int (u 2)),(int (u 3)),(int (u 4))] 0 false)]))):=by kernel_rfl
def PJ (l:List B2) (i:Nat):B2:=List.getD l i (EK.BL JQ)
def QP (st:PF) (i:Nat) (p:B2):PF:=EF st (DZ p) p.2.2.2.2 (M1 p) ((i+1:Nat):Int) (Fq (Int.tmod p.2.1 4)) (LO p)
def VB (st:PF) (i:Nat) (p:B2):Prop:=Ld p/\P7 st (DZ p) p.2.2.2.2 (M1 p) ((i+1:Nat):Int) (Fq (Int.tmod p.2.1 4)) (LO p)
def Eo (l:List B2):Nat->Nat->PF->PF
 | 0,_,st=>st
 | n+1,i,st=>Eo l n (i+1) (QP st i (PJ l i))
def WI (l:List B2):Nat->Nat->PF->Prop
 | 0,_,_=>True
 | n+1,i,st=>VB st i (PJ l i)/\WI l n (i+1) (QP st i (PJ l i))
def Oo:PF:=⟨rl 5 600,fun _=>[],fun _=>0⟩
def sa (st:PF) (l:List B2):LR:=[some (.vec JQ l true),some (.abs (.pack (.dev st.d)) false),some (.vec Ah (st.L 0) false),some (.vec Ah (st.L 1) false),some (.vec Ah (st.L 2) false),some (.vec Ah (st.L 3) false),some (.vec Ah (st.L 4) false),some (xr 23 st.L st.u)]
def qj (st:PF) (l:List B2) (v:Value) (H:AA):Prop:=v=At 22/\[20,21,23,24,25,26,27,22].map H.get=sa st l
theorem bD {p:B2} (h:Ld p):DZ p < 5:=by
 obtain⟨r0,r1⟩:=MJ (m:=5) h.a0 (by decide);unfold DZ;omega
theorem tx {s:Nat} (hs:s < 5) {st:PF} {l:List B2} {k i:Nat} {a b c:Int} {e f:Bool} {kd q:Int} {ky vl:As} (h:P7 st s f kd q ky vl) (hi:i < 1000):Iy UQ (Ax Ur) [] AF [20] No [] (fun _ _=>False) (fun c=>c=jl (EF st s f kd q ky vl).d (EF st s f kd q ky vl).L (EF st s f kd q ky vl).u l k ((i+1:Nat):Int)) 900 (TW st.d st.L st.u l k (i:Nat) a b c e f ((s:Nat):Int) kd q ky vl):=by
 match s,hs,h with
 | 0,_,h=>exact mv h hi
 | 1,_,h=>exact mL h hi
 | 2,_,h=>exact oT h hi
 | 3,_,h=>exact nh h hi
 | 4,_,h=>exact nj h hi
 | s+5,hs,_=>exact absurd hs (by omega)
theorem mj {l:List B2} {k:Nat} (hk:k<=l.length) (hk2:k<=50):∀(n i:Nat) (st:PF),k - i=n->i<=k->WI l n i st->AX UQ 21 AF (qj (Eo l n i st) l) (jl st.d st.L st.u l k (i:Nat)):=by
 intro n;induction n with
 | zero=>
  intro i st hn hi _;refine IH dr.pf (M:=21) (S:=No) (S2:=mJ) (h1:=fun c=>No.here c) (h2:=fun c=>Il AF 8 c) (ks:=[]) (hs:=[]) (ids:=[20,21,23,24,25,26,27]) (by kernel_rfl) (by decide) (by decide) (Q:=fun v os=>v=At 22/\os=sa st l) (R:=fun _=>False) (R2:=fun _=>False) (fun v H hq=>?_) (fun c h=>h.elim) (fun c h=>h.elim) 900 _ ?_
  ·obtain⟨rfl,hos⟩:=hq;exact⟨rfl,hos⟩
  ·rw[tk];exact AZ (GP (by omega)) ⟨rfl,rfl⟩
 | succ n ih=>
  intro i st hn hi hall;obtain⟨⟨hp,h1⟩,h2⟩:=hall;have hik:i < k:=by omega
  refine IH dr.pf (M:=21) (S:=No) (S2:=mJ) (h1:=fun c=>No.here c) (h2:=fun c=>Il AF 8 c) (ks:=[]) (hs:=[]) (ids:=[20]) (by kernel_rfl) (by decide) (by decide) (Q:=fun _ _=>False) (R:=fun _=>False) (R2:=fun c=>c=vz st.d st.L st.u l k (i:Nat) (PJ l i).1 (PJ l i).2.1 (PJ l i).2.2.1 (PJ l i).2.2.2.1 (PJ l i).2.2.2.2) (fun v H h=>h.elim) (fun c h=>h.elim) (fun c hc=>?_) 900 _ ?_
  ·rw[hc];refine IH dr.pf (M:=21) (S:=No) (S2:=uV) (h1:=fun c=>No.here c) (h2:=fun c=>Il AF 12 c) (ks:=[]) (hs:=[]) (ids:=[20]) (by kernel_rfl) (by decide) (by decide) (Q:=fun _ _=>False) (R:=fun _=>False) (R2:=_) (fun v H h=>h.elim) (fun c h=>h.elim) (fun c hc=>?_) 900 _ (js hp);rw[hc];have hw:IntKind.wrap .i64 ((i:Int)+1)=((i+1:Nat):Int):=by rw[wrap64 (by omega) (by omega)];rfl
   rw[hw];refine Bq dr.pf [] [20] No [] (by kernel_rfl) (show 21<=21 from CC _) (fun _ _=>False) _ (fun v H h=>h.elim) (fun c hc=>?_) (n:=900) (tx (bD hp) h1 (by omega));rw[hc];exact ih (i+1) _ (by omega) (by omega) h2
  ·rw[uT];(conv=>zeta)
   simp only[HR,Hq];exact AB (Fp (by omega)) (AB (EI hik) (AB (Gc (by omega)) rfl))
def xy (args:AL) (objs:BN):GT:=match args,objs with
 | [.slice (some ⟨20,0,some 0⟩) m 18446744073709551616],[.vec [.int .u8,.int .u8,.int .u8,.bool,.bool] l _]=> .ask (m=l.length/\WI l (Mc m) 0 Oo) (.ret ⟨At 21,[],[.cells [At 22,Ao 23 ((Eo l (Mc m) 0 Oo).L 0).length,Ao 24 ((Eo l (Mc m) 0 Oo).L 1).length,Ao 25 ((Eo l (Mc m) 0 Oo).L 2).length,Ao 26 ((Eo l (Mc m) 0 Oo).L 3).length,Ao 27 ((Eo l (Mc m) 0 Oo).L 4).length,int ((Eo l (Mc m) 0 Oo).u 0),int ((Eo l (Mc m) 0 Oo).u 1),int ((Eo l (Mc m) 0 Oo).u 2),int ((Eo l (Mc m) 0 Oo).u 3),int ((Eo l (Mc m) 0 Oo).u 4)] 0 false,
  .abs (.pack (.dev (Eo l (Mc m) 0 Oo).d)) false,.vec Ah ((Eo l (Mc m) 0 Oo).L 0) false,.vec Ah ((Eo l (Mc m) 0 Oo).L 1) false,.vec Ah ((Eo l (Mc m) 0 Oo).L 2) false,.vec Ah ((Eo l (Mc m) 0 Oo).L 3) false,.vec Ah ((Eo l (Mc m) 0 Oo).L 4) false]⟩)
 | _,_=> .fail
theorem jZ {d:Ab} {l:List B2} {k:Nat} {Q:Ih} (hT:AX UQ 21 AF Q (jl d (fun _=>[]) (fun _=>0) l k ((0:Nat):Int))):AX UQ 21 AF Q (yC d l k):=by
 refine A5.Gh 22 5 Ah [At 21] [.slice none 0 0,.slice none 0 0,.slice none 0 0,.slice none 0 0,int 0,int 0,int 0,int 0,int 0] (e:=0) (ro:=false) (b':=22) (o:=0) (s:=none) (by kernel_rfl) (by kernel_rfl) (by kernel_rfl) (by kernel_rfl) (by decide) ?_;refine A5.Gh 22 5 Ah [At 21,Ao 23 0] [.slice none 0 0,.slice none 0 0,.slice none 0 0,int 0,int 0,int 0,int 0,int 0] (e:=0) (ro:=false) (b':=22) (o:=0) (s:=none) (by kernel_rfl) (by kernel_rfl) (by kernel_rfl) (by kernel_rfl) (by decide) ?_;refine A5.Gh 22 5 Ah [At 21,Ao 23 0,Ao 24 0] [.slice none 0 0,.slice none 0 0,int 0,int 0,int 0,int 0,int 0] (e:=0) (ro:=false) (b':=22) (o:=0) (s:=none) (by kernel_rfl) (by kernel_rfl) (by kernel_rfl) (by kernel_rfl) (by decide) ?_;refine A5.Gh 22 5 Ah [At 21,Ao 23 0,Ao 24 0,Ao 25 0] [.slice none 0 0,int 0,int 0,int 0,int 0,int 0] (e:=0) (ro:=false) (b':=22) (o:=0) (s:=none) (by kernel_rfl) (by kernel_rfl) (by kernel_rfl) (by kernel_rfl) (by decide) ?_;refine A5.Gh 22 5 Ah [At 21,Ao 23 0,Ao 24 0,Ao 25 0,Ao 26 0] [int 0,int 0,int 0,int 0,int 0] (e:=0) (ro:=false) (b':=22) (o:=0) (s:=none) (by kernel_rfl) (by kernel_rfl) (by kernel_rfl) (by kernel_rfl) (by decide) ?_;refine cast ?_ hT;kernel_rfl
theorem Xn (m:Nat):Mc m<=m/\Mc m<=50:=by
 unfold Mc;split
 ·rename_i h;have h:(50:Int) < (m:Int):=h;show Int.toNat 50 - 0<=m/\Int.toNat 50 - 0<=50;have:Int.toNat 50=50:=rfl;omega
 ·rename_i h;have h:¬(50:Int) < (m:Int):=h;show m - 0<=m/\m - 0<=50;omega
theorem vQ (m:Nat):(decide ((0:Int)<=if (50:Int) < Int.ofNat m then 50 else Int.ofNat m)&&Nat.ble (Int.toNat (if (50:Int) < Int.ofNat m then 50 else Int.ofNat m)) m&&decide ((0:Nat)<=0)&&Nat.ble 0 (Int.toNat (if (50:Int) < Int.ofNat m then 50 else Int.ofNat m)))=true:=by
 have h1:Int.toNat (if (50:Int) < Int.ofNat m then 50 else Int.ofNat m)<=m:=(Xn m).1;have h0:(0:Int)<=if (50:Int) < Int.ofNat m then 50 else Int.ofNat m:=by
  split
  ·decide
  ·exact WQ m
 rw[Fp h0,B0 h1,B0 (PM _)];rfl
theorem gH:CY Tryz.prog AI AF (Ai AI 20 [] xy):=by
 refine BF dr.all (by kernel_rfl) (n:=BD AF) (by kernel_rfl) (by kernel_rfl) fun argsc objs x hx hro=>?_
 clear hro;unfold xy at hx;split at hx
 ·rename_i m l ro;simp only[GT.run]at hx;split at hx
  ·rename_i hp0;cases hx
   obtain⟨rfl,hall⟩:=hp0;generalize hst:Eo l (Mc l.length) 0 Oo=st;refine⟨VC (by kernel_rfl),Ak.mono (AX.Fh (Q:=qj st l) ?_) ?_⟩
   ·obtain⟨k1,k2⟩:=Xn l.length;refine Bq dr.pf [] [20] No [] (by kernel_rfl) (show 21<=21 from CC _) (fun _ _=>False) (fun c=>c=yC (rl 5 600) l (Mc l.length)) (fun v H h=>h.elim) (fun c hc=>?_) (n:=900) (c:=Go.AD.st AF [Ao 20 l.length] (hp [.vec JQ l true])) ?_
    ·rw[hc];have:=mj (l:=l) (k:=Mc l.length) k1 k2 _ 0 Oo rfl (PM _) hall;rw[ABD,hst]at this;exact jZ this
    ·rw[ti];exact⟨by decide,AB (vQ _) rfl⟩
   ·rintro v H ⟨rfl,hos⟩;unfold sa at hos;simp only[T6,iR,JB,dM]at hos;obtain⟨g20,g21,g23,g24,g25,g26,g27,g22⟩:=hos;refine⟨[22,21,23,24,25,26,27],by decide,fun b hb=>?_,rfl,rfl,fun j b o hj ho=>?_,fun j o hj=>?_⟩
    ·simp only[WL,YC,AAw]at hb;show 21<=b;omega
    ·match j,hj,ho with
     | 0,hj,ho=>cases hj;cases ho;exact⟨_,rfl,g22⟩
     | 1,hj,ho=>cases hj;cases ho;exact⟨_,rfl,g21⟩
     | 2,hj,ho=>cases hj;cases ho;exact⟨_,rfl,g23⟩
     | 3,hj,ho=>cases hj;cases ho;exact⟨_,rfl,g24⟩
     | 4,hj,ho=>cases hj;cases ho;exact⟨_,rfl,g25⟩
     | 5,hj,ho=>cases hj;cases ho;exact⟨_,rfl,g26⟩
     | 6,hj,ho=>cases hj;cases ho;exact⟨_,rfl,g27⟩
     | j+7,hj,_=>cases hj
    ·intro hm;cases hm
  ·cases hx
 ·cases hx
def wK:Stop:=⟨A6,0,3,22,[20,21],[0,1,12,13]⟩
def ux (l1 l2:Aw) (n m:Nat) (i:Int):BT:=
 ⟨⟨A6,EZ [(0,Ao 20 n),(1,Ao 21 m),(12,int n),(13,int i)],BD A6,[.code (A9 Tryz.prog A6 [1,1,0,1,0,0]),.inLoop (A9 Tryz.prog A6 [1,1,0,1,0,0]),.inBlock 0,.code (A9 Tryz.prog A6 [1,1,1])],[],false,.normal,none⟩,[],hp [.vec Ah l1 true,.vec Ah l2 true]⟩
theorem uN (l1 l2:Aw) (n m:Nat) (Q:Bm) (R:Bz):Iy xI (Ax u6) [] A6 [] wK [] Q R 300 (st A6 [Ao 20 n,Ao 21 m] (hp [.vec Ah l1 true,.vec Ah l2 true]))=(
 (bif Int.ofNat n != Int.ofNat m then(Q (.bool false) [])else(R (ux l1 l2 n m 0)))):=by kernel_rfl
theorem qd (l1 l2:Aw) (n m:Nat) (i:Int) (Q:Bm) (R:Bz):Iy xI (Ax u6) [] A6 [] wK [] Q R 300 (ux l1 l2 n m i)=(
 let b:=List.getD l2 (0+i.toNat) (EK.BL Ah);let a:=List.getD l1 (0+i.toNat) (EK.BL Ah);(bif decide (i < (n:Int))then(bif decide (0<=i)&&Nat.blt i.toNat n then(bif Nat.blt (0+i.toNat) l1.length then(bif decide (0<=i)&&Nat.blt i.toNat m then(bif Nat.blt (0+i.toNat) l2.length then(bif !(a.1==b.1&&(ByteArray.toList a.2.1==ByteArray.toList b.2.1&&(a.2.2.1==b.2.2.1&&(a.2.2.2.1==b.2.2.2.1&&(a.2.2.2.2.1==b.2.2.2.2.1&&(a.2.2.2.2.2==b.2.2.2.2.2&&true))))))then(Q (.bool false) [])else(R (ux l1 l2 n m (IntKind.wrap .i64 (i+1)))))else False)else False)else False)else False)else(Q (.bool true) []))):=by kernel_rfl
structure PR (l1 l2:Aw) (n m:Nat):Prop where
 h1:n<=l1.length
 h2:m<=l2.length
 e:l1.take n=l2.take m
 hb:n < 100000
theorem PR.len {l1 l2:Aw} {n m:Nat} (h:PR l1 l2 n m):n=m:=by
 have:=congrArg List.length h.e;rw[IP,IP]at this;have:=h.h1;have:=h.h2;omega
theorem PR.at {l1 l2:Aw} {n m i:Nat} (h:PR l1 l2 n m) (hi:i < n):List.getD l1 i (EK.BL Ah)=List.getD l2 i (EK.BL Ah):=by
 have e:=congrArg (fun l=>l[i]?) h.e;simp only[Ul]at e;rw[HI hi,HI (by rw[<-h.len];exact hi)]at e;rw[F5,F5,e]
theorem mn {l1 l2:Aw} {n m:Nat} (h:PR l1 l2 n m):∀(k i:Nat),n - i=k->i<=n->AX xI 22 A6 (fun v _=>v= .bool true) (ux l1 l2 n m (i:Nat)):=by
 have hb:=h.hb;have h1:=h.h1;have h2:=h.h2;have hl:=h.len;intro k;induction k with
 | zero=>
  intro i hk hi;refine Bq dX.pf [] [] wK [] (by kernel_rfl) (show 22<=22 from CC _) (fun v _=>v= .bool true) (fun _=>False) (fun v H h=>h) (fun c h=>h.elim) (n:=300) ?_;rw[qd];exact AZ (GP (by omega)) rfl
 | succ k ih=>
  intro i hk hi;have hin:i < n:=by omega
  refine Bq dX.pf [] [] wK [] (by kernel_rfl) (show 22<=22 from CC _) (fun _ _=>False) (fun c=>c=ux l1 l2 n m ((i+1:Nat):Int)) (fun v H h=>h.elim) (fun c hc=>?_) (n:=300) ?_
  ·rw[hc];exact ih (i+1) (by omega) (by omega)
  ·rw[qd];(conv=>zeta)
   have hw:IntKind.wrap .i64 ((i:Int)+1)=((i+1:Nat):Int):=by rw[wrap64 (by omega) (by omega)];rfl
   rw[hw];simp only[HR,Hq];rw[h.at hin];simp only[AA2,ABm,ABW];exact AB (Fp (by omega)) (AB (EI hin) (AB (Gc (by omega)) (AB (EI (by omega)) (AB (Gc (by omega)) (AZ rfl (by first | exact rfl | exact trivial))))))
def xv (args:AL) (objs:BN):GT:=match args,objs with
 | [.slice (some ⟨20,0,some 0⟩) n 18446744073709551616,.slice (some ⟨21,0,some 0⟩) m 18446744073709551616],[.vec [.int .i64,.str,.bool,.int .i64,.int .i64,.int .i64] l1 _,.vec [.int .i64,.str,.bool,.int .i64,.int .i64,.int .i64] l2 _]=> .ask (PR l1 l2 n m) (.ret ⟨.bool true,[],[]⟩)
 | _,_=> .fail
theorem oG:CY Tryz.prog AI A6 (Ai AI 20 [] xv):=by
 refine BF dX.all (by kernel_rfl) (n:=BD A6) (by kernel_rfl) (by kernel_rfl) fun argsc objs x hx hro=>?_
 clear hro;unfold xv at hx;split at hx
 ·rename_i n m l1 r1 l2 r2;simp only[GT.run]at hx;split at hx
  ·rename_i h;cases hx
   refine⟨VC (by kernel_rfl),Ak.mono (AX.Fh (Q:=fun v _=>v= .bool true) ?_) fun v H e=>by subst e;exact Ch rfl⟩;refine Bq dX.pf [] [] wK [] (by kernel_rfl) (show 22<=22 from CC _) (fun _ _=>False) (fun c=>c=ux l1 l2 n m ((0:Nat):Int)) (fun v H h=>h.elim) (fun c hc=>?_) (n:=300) (c:=st A6 [Ao 20 n,Ao 21 m] (hp [.vec Ah l1 true,.vec Ah l2 true])) ?_
   ·rw[hc];exact mn h _ 0 rfl (PM _)
   ·rw[uN];have e:(Int.ofNat n != Int.ofNat m)=false:=by rw[h.len];simp
    exact AZ e rfl
  ·cases hx
 ·cases hx
end Go.AD
namespace Go.AD
inductive Qr (ops:Array Oper) (x:Nat):Nat->Prop where
 | one {o:Oper} {d:Nat} (h:ops[x]? = some o) (hd:d∈Fx o):Qr ops x d
 | more {i:Nat} {o:Oper} {d:Nat} (hi:Qr ops x i) (h:ops[i]? = some o) (hd:d∈Fx o):Qr ops x d
section
variable {X:Ctx} {μ:Ae} {H H':AA} {ops:Array Oper} {t:Tr Value} {n:Nat} {tm:BR} {D idx:AW} {x:Nat} {o:Oper} {rest:List PE} {G:List (Nat × Nat)} {Fact:Nat->Oper->Nat->Prop}
theorem gf (h:FM X μ H ops t n tm D (.op x o::rest) (x::idx) G Fact) {i:Nat} (hd:Qr ops x i):i∉x::idx:=by
 induction hd with
 | one hx hd=>
  obtain⟨⟨o1,h1,h2⟩,_,_⟩:=h.J2;rw[hx]at h1;cases h1
  exact h2 _ hd
 | more _ hi hd ih=>exact(h.V8 _ _ hi ih).2 _ hd
theorem aE:∀{l:AW},Wa ops l->∀i∈l,i < ops.size
 | [],_,_,h=>by cases h
 | j::l,h,i,hi=>by
  obtain⟨⟨o,h1,_⟩,_,h3⟩:=h;rcases List.mem_cons.1 hi with e | e
  ·subst e;exact(Array.getElem?_eq_some_iff.1 h1).1
  ·exact aE h3 i e
theorem bI (h:FM X μ H ops t n tm D (.op x o::rest) (x::idx) G Fact) (hc:∀i,i < ops.size->i≠x->Qr ops x i):idx=[]:=by
 cases idx with
 | nil=>rfl
 | cons j r=>
  obtain⟨_,h2,h3⟩:=h.J2;have hj:j≠x:=fun e=>h2 (by rw[e];exact bB ..)
  exact absurd (ZH _ (bB ..)) (gf h (hc j (aE h3 j (bB ..)) hj))
theorem UH (h:EY X.P ops D (.op x o::rest)=true):x∉D:=by
 unfold EY at h;simp only[DL,fO]at h;intro hx;have:=h.1.1.1;rw[Ef.2 hx]at this;cases this
theorem ni (h:FM X μ H ops t n tm D (.op x o::rest) [x] G Fact) (l:AW):FM X μ H' ops (TF t l) n tm D (.op x o::rest) [x] [] Fact:=by
 refine⟨h.stat,h.wf,h.Uv,h.J2,h.V8,h.ec,h.sz,fun u hu=>?_,fun i o' hi hD hx=>?_,h.eZ,aG,fun b hb=>(by cases hb)⟩
 ·unfold TF;rcases Jm id t l u with e | e
  ·rw[e];exact .Bv _
  ·rw[e];exact h.tmp u hu
 ·rw[I6]at hx;subst hx;exact absurd hD (UH h.Uv)
def Vv (ops:Array Oper) (x:Nat) (o:Oper):Bool:=(List.range ops.size).all fun i=>Nat.beq i x||OX (Jx ops.toList o) i
theorem Vk (ho:ops[x]? = some o) (h:Vv ops x o=true):∀i,i < ops.size->i≠x->Qr ops x i:=by
 intro i hi hx;have h1:=List.all_eq_true.1 h i (List.mem_range.2 hi);simp only[gO]at h1;rcases h1 with h1 | h1
 ·exact absurd (BG h1) hx
 ·have h2:=Ef.1 h1;unfold Jx at h2;exact Pg (Qr ops x) (fun j oj hj hs d hd=> .more hs (by rw[<-Ut];exact hj) hd) _ _ _ (fun j hj=> .one ho hj) (fun j hj=>by cases hj) i h2
def Qo:List B9->Bool
 | .Ee ops (.op x o::_)::k=>Vv ops x o&&C6 k
 | l=>C6 l
theorem jO {ks:FV} {g:AW} {f:Aj} {f':Frame} (h:Hh X μ H g f f') (hd:Qo f.todo=true):Hh X μ H' [] (Ir ks f) f':=by
 cases h with
 | plain fn t n tm todo todo' ds ds' r kd rd rd' ht hi hdd hr=>
  unfold Ir;simp only;split
  ·exact .plain _ _ _ _ _ _ _ _ _ _ _ _ (OT ht _) hi hdd hr
  ·exact .plain _ _ _ _ _ _ _ _ _ _ _ _ ht hi hdd hr
 | KA fn t n tm ops x o rest idx D G k k' ds ds' kd rd rd' ho hD hk hdd hr=>
  have hd:(Vv ops x o&&C6 k)=true:=hd;rw[DL]at hd;have hn:=bI hD (Vk ho hd.1);subst hn;unfold Ir;simp only;split
  ·exact .KA fn _ n tm ops x o rest [] D [] k k' ds ds' kd rd rd' ho (ni hD _) hk hdd hr
  ·refine .KA fn _ n tm ops x o rest [] D [] k k' ds ds' kd rd rd' ho ⟨hD.stat,hD.wf,hD.Uv,hD.J2,hD.V8,hD.ec,hD.sz,hD.tmp,fun i o' hi hDi hx=>?_,hD.eZ,aG,fun b hb=>(by cases hb)⟩ hk hdd hr;rw[I6]at hx;subst hx;exact absurd hDi (UH hD.Uv)
theorem bY {ks:FV} {g:AW} {l:List Aj} {l':List Frame} (h:Dv X μ H g l l') (hd:(l.all fun f=>Qo f.todo)=true):Dv X μ H' [] (l.map (Ir ks)) l':=by
 induction h with
 | nil=>exact .nil
 | cons hf _ ih=>
  simp only[cA,DL]at hd;exact .cons (g:=[]) (gs:=[]) (jO hf hd.1) (ih hd.2)
theorem b7 {N:Nat} {ks:FV} {bs:AW} {c:BT} {Φ:Bz} (h1:C6 c.fr.todo=true) (h2:(c.cs.all fun f=>Qo f.todo)=true) (hr:A5 X N (F7 ks bs c) Φ):A5 X N c Φ:=by
 intro base W0 hb hok hplan cs0 μ fr cs W hm;refine hr base W0 hb hok hplan cs0 μ fr cs W ?_;obtain⟨hH,hlaid,g,gs,hfr,hcs,hnd⟩:=hm;exact⟨OD bs hH,hlaid,[],[],SY hfr h1,bY hcs h2,by simp⟩
theorem rO {ρ:Rn} {ν:Ae} (hρ:∀b i T,ρ b=some i->μ b=some T->ν i=some T) (h:FM X μ H ops t n tm D (.op x o::rest) [x] G Fact):FM X ν H' ops (t.Ym (Np ρ)) n tm D (.op x o::rest) [x] [] Fact:=by
 refine⟨h.stat,h.wf,h.Uv,h.J2,h.V8,h.ec,h.sz,fun u hu=>?_,fun i o' hi hD hx=>?_,h.eZ,aG,fun b hb=>(by cases hb)⟩
 ·have:=h.tmp u hu;unfold look at this ⊢;rw[Tr.Wh];cases hg:t.get u with
  | none=>exact .Bv _
  | some v=>rw[hg]at this;exact It hρ 8 _ _ this
 ·rw[I6]at hx;subst hx;exact absurd hD (UH h.Uv)
def fY (ρ:Rn):Aj->Option Aj
 | ⟨fn,t,n,.Ee ops (.op x o::rest)::k,ds,r,kd,rd⟩=>bif Vv ops x o then(match P0 ρ k,ca ρ ds,lT ρ rd with
  | some k',some ds',some rd'=>some ⟨fn,t.Ym (Np ρ),n,.Ee ops (.op x o::rest)::k',ds',r,kd,rd'⟩
  | _,_,_=>none)else none
 | f=>Qv ρ none f
def To (ρ:Rn):List Aj->Option (List Aj)
 | []=>some []
 | f::r=>match fY ρ f,To ρ r with
  | some g,some l=>some (g::l)
  | _,_=>none
theorem ZE {ρ:Rn} {ν:Ae} (hρ:∀b i T,ρ b=some i->μ b=some T->ν i=some T) {g:AW} {l l1:List Aj} {l':List Frame} (h:To ρ l=some l1) (hr:Dv X μ H g l l'):Dv X ν H' [] l1 l':=by
 induction hr generalizing l1 with
 | nil=>cases h;exact .nil
 | cons hf _ ih=>
  simp only[To]at h;split at h
  ·rename_i f1 m e1 e2;cases h
   refine .cons (g:=[]) (gs:=[]) ?_ (ih e2);cases hf with
   | plain fn t n tm todo todo' ds ds' r kd rd rd' ht hi hd hr=>
    unfold fY at e1;split at e1
    ·rename_i heq;cases heq
     cases hi with
     | cons h1 _=>cases h1
    ·simp only[Qv]at e1;split at e1
     ·rename_i a b c h1 h2 h3;cases e1
      exact .plain _ _ _ _ _ _ _ _ _ _ _ _ (Rx hρ ht) (I5 hρ h1 hi) (JG hρ h2 hd) (KX hρ h3 hr)
     ·cases e1
   | KA fn t n tm ops x o rest idx D G k k' ds ds' kd rd rd' ho hD hk hd hr=>
    simp only[fY]at e1;cases hc:Vv ops x o
    ·simp only[hc,Dg]at e1;cases e1
    ·simp only[hc,Al]at e1;have hn:=bI hD (Vk ho hc);subst hn;split at e1
     ·rename_i a b c h1 h2 h3;cases e1
      exact .KA fn _ n tm ops x o rest [] D [] _ k' _ ds' kd _ rd' ho (rO hρ hD) (I5 hρ h1 hk) (JG hρ h2 hd) (KX hρ h3 hr)
     ·cases e1
  ·cases h
end
def sP (N:Nat) (Av ids:AW) (live:AW) (c:BT):Option BT:=
 match Qv (Fw N ids) (some live) c.fr,To (Fw N ids) c.cs,RB (Fw N ids) c.H.m Av with
 | some fr,some cs,some m=>some ⟨fr,cs,⟨m,N+ids.length⟩⟩
 | _,_,_=>none
section
variable {X:Ctx} {N:Nat}
theorem de {M:Nat} (hMN:M<=N) {Av ids live:AW} {c c':BT} {Φ:Bz} (hl:(X.laid.all fun p=>Nat.blt p.1 N)=true) (h:sP N Av ids live c=some c') (hr:A5 X M c' Φ):A5 X M c Φ:=by
 intro base W0 hb hok hplan cs0 μ fr cs W hm;suffices hs:∃μ',JL X base W0 μ' c' fr cs W by
  obtain⟨μ',hm'⟩:=hs;exact hr base W0 hb hok hplan cs0 μ' fr cs W hm'
 obtain⟨hH,hlaid,g,gs,hfr,hcs,hnd⟩:=hm;unfold sP at h;split at h
 ·rename_i fr1 cs1 m1 e1 e2 e3;cases h
  let ν:Ae:=fun i=>(DF N ids i).bind μ
  have hν:∀b i T,Fw N ids b=some i->μ b=some T->ν i=some T:=by
   intro b i T h1 h2;show(DF N ids i).bind μ=_;rw[Fi h1];exact h2
  have hν':∀b i T,Fw N ids b=some i->ν i=some T->μ b=some T:=by
   intro b i T h1 h2;have h2:(DF N ids i).bind μ=some T:=h2;rw[Fi h1]at h2;exact h2
  have hlow:∀i,i < N->ν i=μ i:=by
   intro i hi;show(DF N ids i).bind μ=_;unfold DF;rw[HI hi];rfl
  refine⟨ν,⟨?_,?_,?_,?_,?_,hH.size,hH.below,hH.out,hH.os,?_,?_,hH.grow⟩,?_,[],[],?_,ZE hν e2 hcs,by simp⟩
  ·intro i o1 hi T hT;obtain⟨b,o,r1,r2,r3⟩:=B6 e3 i o1 hi;obtain⟨o',q1,q2⟩:=hH.obj b o r2 T (hν' _ _ _ r1 hT);exact⟨o',q1,Z9 hν r3 q2⟩
  ·intro i o1 hi hro T hT hv;obtain⟨b,o,r1,r2,r3⟩:=B6 e3 i o1 hi;exact hH.own b o r2 (by rw[<-(HN r3).1];exact hro) T (hν' _ _ _ r1 hT) (fun hw=>hv ((G3 r3 T).2 hw))
  ·intro i1 i2 o1 o2 h1 h2 T1 T2 t1 t2 v1 v2 hcc hrr;obtain⟨b1,p1,r1,r2,r3⟩:=B6 e3 i1 o1 h1;obtain⟨b2,p2,s1,s2,s3⟩:=B6 e3 i2 o2 h2;have:=hH.inj b1 b2 p1 p2 r2 s2 T1 T2 (hν' _ _ _ r1 t1) (hν' _ _ _ s1 t2) (fun hw=>v1 ((G3 r3 T1).2 hw)) (fun hw=>v2 ((G3 s3 T2).2 hw)) hcc (by rw[<-(HN r3).1,<-(HN s3).1];exact hrr);subst this;rw[r1]at s1;cases s1;rfl
  ·intro i hi;have hi:N+ids.length<=i:=hi;have hnone:DF N ids i=none:=by
    unfold DF;rw[E7 (by omega),NC (by omega)]
   constructor
   ·cases hg:(AA.mk m1 (N+ids.length)).get i with
    | none=>rfl
    | some o1=>
     obtain⟨b,o,r1,_⟩:=B6 e3 i o1 hg;rw[Fi r1]at hnone;cases hnone
   ·show(DF N ids i).bind μ=none;rw[hnone];rfl
  ·intro i T hT;have hT:(DF N ids i).bind μ=some T:=hT;cases hbk:DF N ids i with
   | none=>rw[hbk]at hT;cases hT
   | some b=>rw[hbk]at hT;exact hH.bound b T hT
  ·obtain⟨φ,q⟩:=hH.abs;refine⟨fun i=>match DF N ids i with | some b=>φ b | none=>fun _=>False,?_,?_⟩
   ·intro i a ro T hi hT;obtain⟨b,o,r1,r2,r3⟩:=B6 e3 i _ hi;obtain⟨this,hext⟩:=(HN r3).2.2 a ro rfl;subst this;simp only[Fi r1];obtain⟨w1,w2⟩:=q.rep b a ro T r2 (hν' _ _ _ r1 hT);exact⟨w1.closed _ hext,w2⟩
   ·intro i a ro T hi hT i2 o2 T2 hi2 hT2 hne;obtain⟨b,o,r1,r2,r3⟩:=B6 e3 i _ hi;obtain⟨this,hext⟩:=(HN r3).2.2 a ro rfl;subst this;obtain⟨b2,p2,s1,s2,s3⟩:=B6 e3 i2 _ hi2;simp only[Fi r1,Fi s1];obtain⟨u1,u2⟩:=q.DG b a ro T r2 (hν' _ _ _ r1 hT) b2 p2 T2 s2 (hν' _ _ _ s1 hT2) (by rintro rfl;rw[r1]at s1;cases s1;exact hne rfl);exact⟨fun hv2=>u1 (fun hw=>hv2 ((G3 s3 T2).2 hw)),fun ea=>u2 (by rw[<-(HN s3).2.1];exact ea)⟩
  ·intro b T hT;rw[hlow b (cZ (hb b T hT) hMN)];exact hH.le b T hT
  ·intro gl hgl;obtain⟨T,h1,h2⟩:=hlaid gl hgl;have:gl < N:=by
    rw[ABk]at hgl;obtain⟨p,hp,hpe⟩:=hgl;have h3:=List.all_eq_true.1 hl p hp;rw[BG hpe];exact VC h3
   exact⟨T,by rw[hlow gl this];exact h1,h2⟩
  ·generalize c.fr=cf at e1 hfr;cases hfr with
   | plain fn t n tm todo todo' ds ds' r kd rd rd' ht hi hd hrr=>
    simp only[Qv]at e1;split at e1
    ·rename_i a b c h1 h2 h3;cases e1
     exact .plain _ _ _ _ _ _ _ _ _ _ _ _ (S6 hν ht live) (I5 hν h1 hi) (JG hν h2 hd) (KX hν h3 hrr)
    ·cases e1
   | drawn fn t n tm ops BJ idx D G k k' ds ds' kd rd rd' hD hk hd hrr=>
    simp only[Qv]at e1;split at e1
    ·rename_i a b c h1 h2 h3;exact absurd rfl (KK h1 _ _ _)
    ·cases e1
 ·cases h
end
def Stop.dL (X:Ctx) (ks:FV) (S:Stop) (c:BT):Option BT:=
 match FD X c with
 | some c1=>bif C6 c1.fr.todo&&(c1.cs.all fun f=>Qo f.todo)then
  (bif Nat.ble S.N (F7 ks (S.ids c1) c1).H.next&&(S.ids (F7 ks (S.ids c1) c1)).all (fun b=>Nat.blt b (F7 ks (S.ids c1) c1).H.next)then
   sP S.N (S.Xi++S.ids (F7 ks (S.ids c1) c1)) (S.ids (F7 ks (S.ids c1) c1)) S.live (F7 ks (S.ids c1) c1)else none)else none
 | none=>none
theorem V3 {X:Ctx} {S:Stop} {ks:FV} {M:Nat} (hM:M<=S.N) (hl:(X.laid.all fun p=>Nat.blt p.1 S.N)=true) {c c2:BT} {Φ:Bz} (hc:S.dL X ks c=some c2) (h:A5 X M c2 Φ):A5 X M c Φ:=by
 unfold Stop.dL at hc;split at hc
 ·rename_i c1 h1;cases hd:(C6 c1.fr.todo&&(c1.cs.all fun f=>Qo f.todo))
  ·simp only[hd,Dg]at hc;cases hc
  ·simp only[hd,Al]at hc;simp only[DL]at hd;cases hb:(Nat.ble S.N (F7 ks (S.ids c1) c1).H.next&&(S.ids (F7 ks (S.ids c1) c1)).all (fun b=>Nat.blt b (F7 ks (S.ids c1) c1).H.next))
   ·simp only[hb,Dg]at hc;cases hc
   ·simp only[hb,Al]at hc;have hr:=de (X:=X) hM hl hc h;exact A5.bind (Reach.Uf ((R6.step h1).reach (Φ:=fun c'=>c'=c1) rfl)) fun c' e=>e ▸ b7 hd.1 hd.2 hr
 ·cases hc
def pW (X:Ctx) (pf:Pf) (hs:List (Nat × Value)) (f:FuncId) (ids:AW) (S:Stop) (h1:BT->Bool) (S2:Stop) (h2:BT->Bool) (ks:FV) (Q:Bm) (R R2:Bz) (n:Nat):Bz:=
 Nat.rec (motive:=fun _=>Bz) (fun _=>False) (fun _ ih c=>match FC X f c with
  | some (v,H)=>Q v ((ids++Au 4 v).map H.get)
  | none=>bif h1 c then(match S.dL X ks c with
   | some c2=>R c2
   | none=>False)
   else bif h2 c then(match S2.dL X ks c with
    | some c2=>R2 c2
    | none=>False)
   else match VL X c with
    | some (b,ct,cf)=>bif b then ih cf else(ih ct/\ih cf)
    | none=>Oe X pf hs c ih) n
theorem tQ {X:Ctx} {pf:Pf} (hpf:HO X pf) {hs:List (Nat × Value)} {f:FuncId} {ids:AW} {M:Nat} {S S2:Stop} {h1 h2:BT->Bool} {ks:FV} (hl:(X.laid.all fun p=>Nat.blt p.1 M)=true) (hN:M<=S.N) (hN2:M<=S2.N) {Q:Bm} {R R2:Bz} {Q':Ih}
 (hQ:∀v H,Q v ((ids++Au 4 v).map H.get)->Q' v H) (hR:∀c,R c->AX X M f Q' c) (hR2:∀c,R2 c->AX X M f Q' c):∀(n:Nat) (c:BT),pW X pf hs f ids S h1 S2 h2 ks Q R R2 n c->AX X M f Q' c:=by
 have up:∀N,M<=N->(X.laid.all fun p=>Nat.blt p.1 N)=true:=fun N hMN=>by
  rw[AA7]at hl ⊢;intro p hp;exact B0 (AAf (VC (hl p hp)) hMN)
 intro n;induction n with
 | zero=>intro c h;cases h
 | succ n ih=>
  intro c h;have h:(match FC X f c with
   | some (v,H)=>Q v ((ids++Au 4 v).map H.get)
   | none=>bif h1 c then(match S.dL X ks c with
    | some c2=>R c2
    | none=>False)
    else bif h2 c then(match S2.dL X ks c with
     | some c2=>R2 c2
     | none=>False)
    else match VL X c with
     | some (b0,ct,cf)=>bif b0 then pW X pf hs f ids S h1 S2 h2 ks Q R R2 n cf else(pW X pf hs f ids S h1 S2 h2 ks Q R R2 n ct/\pW X pf hs f ids S h1 S2 h2 ks Q R R2 n cf)
     | none=>Oe X pf hs c (pW X pf hs f ids S h1 S2 h2 ks Q R R2 n)):=h
  split at h
  ·rename_i v H e;exact A5.here ⟨v,H,e,hQ v H h⟩
  ·cases hs:h1 c
   ·simp only[hs,Dg]at h;cases hs2:h2 c
    ·simp only[hs2,Dg]at h;split at h
     ·rename_i b0 ct cf hq;cases hb:b0
      ·simp only[hb,Dg]at h;exact A5.bind (Reach.Uf (GZ (Φ:=fun c'=>pW X pf _ f ids S h1 S2 h2 ks Q R R2 n c') hq (fun _=>h.1) h.2)) fun c' hc=>ih c' hc
      ·simp only[hb,Al]at h;exact A5.bind (Reach.Uf (GZ (Φ:=fun c'=>pW X pf _ f ids S h1 S2 h2 ks Q R R2 n c') hq (fun e=>by rw[hb]at e;cases e) h)) fun c' hc=>ih c' hc
     ·exact A5.bind (Reach.Uf (KD hpf (KS h))) fun c' hc=>ih c' hc
    ·simp only[hs2,Al]at h;split at h
     ·rename_i c2 hc;exact V3 (X:=X) (S:=S2) hN2 (up _ hN2) hc (hR2 c2 h)
     ·cases h
   ·simp only[hs,Al]at h;split at h
    ·rename_i c2 hc;exact V3 (X:=X) (S:=S) hN (up _ hN) hc (hR c2 h)
    ·cases h
end Go.AD
namespace Go.AD
open Go.Proofs
def yJ:List GA:=[(BZ,Rq,Vx)]
theorem we:Ci yJ:= .other Qy R4 .nil
abbrev uK:Ctx:=Bp Tryz.prog AI (Cv yJ)
def eU:Stop:=⟨Az,2,2,27,[20,21,22,23,24,25,26],[0,5,6,7]⟩
def wW:Stop:=⟨AN,0,3,27,[20,21,22,23,24,25,26],[0,1,5]⟩
def yu:FV:=[(DV,[]),(AN,[5])]
def xS (ns nk:Nat) (row:List (EK.C [.tok])) (krow:Cq) (LS LK:FZ) (ls:Aw) (s:Int) (o:Value):BT:=
 ⟨⟨AN,EZ [(0,At 20),(1,int s),(5,At 27)],BD AN,[.code (A9 Tryz.prog AN [1,1,0,0]),.code (A9 Tryz.prog AN [1,1,0,1]),.code (A9 Tryz.prog AN [1,1,1])],[],false,.normal,none⟩,[],(hp (Rh ns nk row krow LS LK ls)).alloc (.cells [o] 0 false)⟩
def v7:Tr Value:=EZ [(5,At 29)]
def vA (ns nk:Nat) (row:List (EK.C [.tok])) (krow:Cq) (LS LK:FZ) (ls lo:Aw) (k m:Nat) (i:Int):BT:=
 ⟨⟨Az,EZ [(0,.func (.yield 28) ⟨[]⟩ ⟨[]⟩),(5,Ao 26 m),(6,int m),(7,int i)],BD Az,[.code (A9 Tryz.prog Az [1,0,0]),.inLoop (A9 Tryz.prog Az [1,0,0]),.inBlock 0],[],false,.normal,none⟩,
  [⟨DV,EZ [],BD DV,[Yn Tryz.prog (A9 Tryz.prog DV [1,0]) 10],[],false,.normal,none⟩,
   ⟨AN,v7,BD AN,[.inRangeFunc 28,.inBlock 0,.code (A9 Tryz.prog AN [1,1,1])],[⟨.collected 27,⟨[]⟩⟩],false,.normal,none⟩],
  ((((hp (Rh ns nk row krow LS LK ls)).alloc (.deferred (some []))).alloc (.loop ⟨.ready,none,AN,v7,BD AN,#[10],A9 Tryz.prog AN [1,1,0,1,0,0],A9 Tryz.prog AN [1,1,0,1,0,1],27⟩)).alloc (.cells [Ao 30 k] 0 false)).alloc (.vec Ah lo false)⟩
def dt (ids:AW) (l:List (EK.C [.tok])):List (EK.C [.tok]):=List.map (Np (Fw 27 ids)) l
def dO (ids:AW) (l:Cq):Cq:=YJ (Fw 27 ids) l
def mT (S:Stop) (h1:BT->Bool) (m:Nat) (Q:Bm) (R:Bz) (c:BT):Prop:=pW uK (Ax yJ) [(22,Ao 26 m)] AN [20,21,22,23,24,25,26] S h1 S (fun _=>false) yu Q R (fun _=>False) 900 c
def xN (ns nk:Nat) (row:List (EK.C [.tok])) (krow:Cq) (LS LK:FZ) (ls:Aw) (s:Int):BT:=⟨(xS ns nk row krow LS LK ls s (Ao 28 0)).fr,[],(xS ns nk row krow LS LK ls s (Ao 28 0)).H.alloc (.vec Ah [] false)⟩
theorem sF (ns nk:Nat) (row:List (EK.C [.tok])) (krow:Cq) (LS LK:FZ) (ls:Aw) (s m:Nat) (Q:Bm) (R:Bz):mT wW (fun c=>Il AN 2 c) m Q R (st AN [At 20,int s] (hp (Rh ns nk row krow LS LK ls)))=(
 (R (xS ns nk (dt [27] row) (dO [27] krow) LS LK ls (s:Int) (Value.slice none 0 0)))):=by kernel_rfl
theorem uA (ns nk:Nat) (row:List (EK.C [.tok])) (krow:Cq) (LS LK:FZ) (ls:Aw) (s m:Nat) (Q:Bm) (R:Bz):mT eU (fun c=>eU.here c) m Q R (xN ns nk row krow LS LK ls s)=(
 let a:Value:= .func (Fn.yield 32) ⟨[]⟩ ⟨[]⟩;(0 < ns)/\(bif decide ((s:Int) < Int.ofNat ns)then(bif decide (0<=(s:Int))&&Nat.blt (s:Int).toNat ns then(bif Nat.blt (0+(s:Int).toNat) row.length then(IZ (SK.enc SK.tok (List.getD row (0+(s:Int).toNat) (EK.BL [SK.tok]))) (Prod.snd (22,Ao 26 m)))/\((a:Value)=a)/\(R (vA ns nk (dt [31,32,27,28] row) (dO [31,32,27,28] krow) LS LK ls ([]:Aw) 0 m 0))else False)else False)else(Q (Ao 28 0) [some (.cells [(At 21),(Ao 22 ns)] 0 false),some (.cells [(.bool true),(Ao 23 nk)] 0 false),some (.vec [SK.tok] row false),some (.vec EV krow false),some (.abs (Ct.mem Ah LS) false),some (.abs (Ct.mem Ah LK) false),some (.vec Ah ls false),some (.vec Ah [] false)]))):=by kernel_rfl
theorem lJ (ns nk:Nat) (row:List (EK.C [.tok])) (krow:Cq) (LS LK:FZ) (ls lo:Aw) (k m:Nat) (i:Int) (Q:Bm) (R:Bz):mT eU (fun c=>eU.here c) m Q R (vA ns nk row krow LS LK ls lo k m i)=(
 let b:=List.getD ls (0+i.toNat) (EK.BL Ah);let a:Prop:=Q (Ao 30 k) [some (.cells [(At 21),(Ao 22 ns)] 0 false),some (.cells [(.bool true),(Ao 23 nk)] 0 false),some (.vec [SK.tok] row false),some (.vec EV krow false),some (.abs (Ct.mem Ah LS) false),some (.abs (Ct.mem Ah LK) false),some (.vec Ah ls false),some (.vec Ah lo false)];(bif decide (i < (m:Int))then(bif decide (0<=i)&&Nat.blt i.toNat m then(bif Nat.blt (0+i.toNat) ls.length then(bif Int.ofNat k==100 then a else(bif true&&Nat.ble (0+k) lo.length&&BQ 56 (k+1)then(R (vA ns nk (dt [27,28,29,34] row) (dO [27,28,29,34] krow) LS LK ls (List.take k (List.drop 0 lo)++[(b.1,b.2.1,b.2.2.1,b.2.2.2.1,b.2.2.2.2.1,b.2.2.2.2.2)]) (k+1) m (IntKind.wrap .i64 (i+1))))else False))else False)else False)else a)):=by kernel_rfl
section
variable {ns nk:Nat} {row:List (EK.C [.tok])} {krow:Cq} {LS LK:FZ} {ls:Aw}
def iL (ns nk:Nat) (row:List (EK.C [.tok])) (krow:Cq) (LS LK:FZ) (ls:Aw) (v:Value) (H:AA):Prop:=v=Ao 30 (ls.take 100).length/\[20,21,22,23,24,25,26,30].map H.get=(Rh ns nk row krow LS LK ls++[AP.vec Ah (ls.take 100) false]).map some
theorem V1 {S:Stop} {h1:BT->Bool} {m:Nat} {Q:Bm} {R:Bz} {Q':Ih} {c:BT} (hS:27<=S.N) (hQ:∀v H,Q v (([20,21,22,23,24,25,26]++Au 4 v).map H.get)->Q' v H) (hR:∀c,R c->AX uK 27 AN Q' c) (h:mT S h1 m Q R c):AX uK 27 AN Q' c:=
 tQ we.pf (M:=27) (by kernel_rfl) hS hS hQ hR (fun c h=>h.elim) 900 c h
structure qR (ns:Nat) (row:List (EK.C [.tok])) (krow:Cq) (ls:Aw) (s:Nat):Prop where
 tC:∀v∈row,eX 27 v
 qC:∀p∈krow,eX 27 p.2
 hs:s < ns
 Pr:ns=row.length
 Jl:row.getD s (EK.BL [.tok])=Ao 26 ls.length
 SP:ls.length < 80000
 hm:ns < 80000
theorem lI {n:Nat} {H:AA} {v:Value} {l:LR} (hv:v=Ao 30 n) (h:([20,21,22,23,24,25,26]++Au 4 v).map H.get=l):[20,21,22,23,24,25,26,30].map H.get=l:=by
 subst hv;exact h
theorem o8 {s:Nat} (h:qR ns row krow ls s):∀(n i:Nat),ls.length - i=n->i<=ls.length->i<=100->AX uK 27 AN (iL ns nk row krow LS LK ls) (vA ns nk row krow LS LK ls (ls.take i) i ls.length i):=by
 have SP:=h.SP;intro n;induction n with
 | zero=>
  intro i hn hi h100;have e:i=ls.length:=by omega
  refine V1 (S:=eU) (h1:=fun c=>eU.here c) (m:=ls.length) (by decide) (Q:=fun v os=>v=Ao 30 i/\os=(Rh ns nk row krow LS LK ls++[AP.vec Ah (ls.take i) false]).map some) (R:=fun _=>False) (fun v H hq=>?_) (fun c h=>h.elim) ?_
  ·obtain⟨hv,hos⟩:=hq;have e2:ls.take 100=ls.take i:=by rw[HM (by omega),HM (by omega)]
   have e3:i=(ls.take 100).length:=by rw[e2,IP];omega
   exact⟨by rw[<-e3];exact hv,by rw[e2];exact lI hv hos⟩
  ·rw[lJ];exact AZ (GP (by omega)) ⟨rfl,rfl⟩
 | succ n ih=>
  intro i hn hi h100;have hlt:i < ls.length:=by omega
  by_cases hc:i=100
  ·refine V1 (S:=eU) (h1:=fun c=>eU.here c) (m:=ls.length) (by decide) (Q:=fun v os=>v=Ao 30 i/\os=(Rh ns nk row krow LS LK ls++[AP.vec Ah (ls.take i) false]).map some) (R:=fun _=>False) (fun v H hq=>?_) (fun c h=>h.elim) ?_
   ·obtain⟨hv,hos⟩:=hq;subst hc;have e3:100=(ls.take 100).length:=by rw[IP];omega
    exact⟨by rw[<-e3];exact hv,lI hv hos⟩
   ·rw[lJ];(conv=>zeta)
    simp only[HR,Hq];exact AB (Fp (by omega)) (AB (EI hlt) (AB (Gc hlt) (AB (by subst hc;rfl) ⟨by first | rfl | trivial,rfl⟩)))
  ·refine V1 (S:=eU) (h1:=fun c=>eU.here c) (m:=ls.length) (by decide) (Q:=fun _ _=>False) (R:=fun c=>c=vA ns nk row krow LS LK ls (ls.take (i+1)) (i+1) ls.length ((i+1:Nat):Int)) (fun v H hq=>hq.elim) (fun c hc=>?_) ?_
   ·rw[hc];exact ih (i+1) (by omega) (by omega) (by omega)
   ·rw[lJ];(conv=>zeta)
    have hw:IntKind.wrap .i64 ((i:Int)+1)=((i+1:Nat):Int):=by rw[wrap64 (by omega) (by omega)];rfl
    rw[hw];have e1:dt [27,28,29,34] row=row:=I4 _ row h.tC;have e2:dO [27,28,29,34] krow=krow:=Mp _ krow h.qC;rw[e1,e2];simp only[HR,Hq,O9];have hl:(ls.take i).length=i:=by rw[IP];omega
    have e3:List.take i (ls.take i)=ls.take i:=HM (by omega);have e4:ls.take (i+1)=ls.take i++[DI ls i]:=by
     rw[List.take_succ_eq_append_getElem hlt]
     congr 2
     unfold DI;rw[F5,FL hlt];rfl
    have hb:(true&&Nat.ble i (ls.take i).length&&BQ 56 (i+1))=true:=by
     rw[hl,B0 (CC _),Lu (by omega)];rfl
    rw[e3,e4];exact AB (Fp (by omega)) (AB (EI hlt) (AB (Gc hlt) (AZ (fH.2 (by show ¬(i:Int)=100;omega)) (AB hb rfl))))
theorem rh {s:Nat} (h:qR ns row krow ls s):AX uK 27 AN (iL ns nk row krow LS LK ls) (st AN [At 20,int s] (hp (Rh ns nk row krow LS LK ls))):=by
 have hs:=h.hs;have hm:=h.hm;refine V1 (m:=0) (S:=wW) (h1:=fun c=>Il AN 2 c) (by decide) (Q:=fun _ _=>False) (R:=fun c=>c=xS ns nk row krow LS LK ls s (.slice none 0 0)) (fun v H hq=>hq.elim) (fun c hc=>?_) ?_
 ·rw[hc];have e1:dt [31,32,27,28] row=row:=I4 _ row h.tC;have e2:dO [31,32,27,28] krow=krow:=Mp _ krow h.qC;refine A5.Gh 27 5 Ah [] [] (e:=0) (ro:=false) (b':=27) (o:=0) (s:=none) (by kernel_rfl) (by kernel_rfl) (by kernel_rfl) (by kernel_rfl) (by decide) ?_;have hT:AX uK 27 AN (iL ns nk row krow LS LK ls) (xN ns nk row krow LS LK ls s):=by
   refine V1 (m:=ls.length) (S:=eU) (h1:=fun c=>eU.here c) (by decide) (Q:=fun _ _=>False) (R:=fun c=>c=vA ns nk row krow LS LK ls [] 0 ls.length ((0:Nat):Int)) (fun v H hq=>hq.elim) (fun c hc=>?_) ?_
   ·rw[hc];exact o8 h _ 0 rfl (PM _) (PM _)
   ·rw[uA];(conv=>zeta);rw[e1,e2]
    simp only[HR,Hq];exact⟨by omega,AB (Fp (by show(s:Int) < (ns:Int);omega)) (AB (EI hs) (AB (Gc (by rw[<-h.Pr];exact hs)) ⟨⟨h.Jl⟩,by first | rfl | trivial,rfl⟩))⟩
  refine cast ?_ hT;kernel_rfl
 ·rw[sF];have e1:dt [27] row=row:=I4 _ row h.tC;have e2:dO [27] krow=krow:=Mp _ krow h.qC;rw[e1,e2]
end
structure V4 (x:Cm) (s:Nat):Prop where
 hs:s < x.AR.length
 hm:x.AR.length < 80000
 SP:(C7 x s).length < 80000
def Ux (x:Cm) (s:Int):Aw:=(C7 x s.toNat).take 100
def yA:Gk:=fun p rest os=>match p,rest,os with
 | .idx x,[.int .i64 s],[]=> .ask (s=(s.toNat:Int)/\V4 x s.toNat) (.ret ⟨Ao 21 (Ux x s).length,.idx x,[.vec Ah (Ux x s) false]⟩)
 | _,_,_=> .fail
theorem uX {x:Cm} {s:Nat} (h:V4 x s):Ak uK 26 (fun b=>20<=b/\b < 26) AN (fun v H=>v=Ao 30 (Ux x s).length/\H.get 20=some (.abs (.pack (.idx x)) false)/\H.get 30=some (.vec Ah (Ux x s) false)) (st AN [At 20,int s] (hp (Vi x))):=by
 have hs:=h.hs;have hrun:=rh (ns:=x.AR.length) (nk:=x.keys.length) (row:=rowP x.AR s (C7 x s).length) (krow:=Df 25 x.keys) (LS:=Ip x.AR s) (LK:=DY x.keys) (ls:=C7 x s) (s:=s) ⟨RJ (by decide),Q1 (by decide),hs,by unfold rowP;rw[Ly,DS],Dp (by rw[DS];exact hs),h.SP,h.hm⟩;refine Ak.Ug (N2:=27) (D2:=fun b=>20<=b/\b < 27) (AX.iW hrun ?_) (fun base W0 μ W hD hH=>RS (Jc hs) hH fun z hz=>hD z hz) (VC (by kernel_rfl));intro v H base W0 W μ hQ hD hH;obtain⟨rfl,hos⟩:=hQ;unfold Rh at hos;simp only[T6,iR,JB,dM,AAm,Yz]at hos;obtain⟨g20,g21,g22,g23,g24,g25,g26,g30⟩:=hos;have h30:=hH.lt g30;obtain⟨μ2,H2,r1,r2,r3,r4⟩:=U5 hH (x:=x) (s:=s) (w1:=26) (l1:=C7 x s) (fun z hz=>hD z (by simp at hz;omega)) hs g26 (hD 26 (by omega)) (by decide) g20 g21 g22 g23 g24 g25;refine⟨_,H2,⟨rfl,?_,?_⟩,fun v' hv=>⟨μ2,r1,r2,hv.mono r1⟩⟩
 ·rw[r3,KU (Jc hs)]
 ·rw[r4 30 (by decide) (by decide) (by omega)];exact g30
theorem sn:CY Tryz.prog AI AN (Ai AI 20 [true] (CX 20 yA)):=by
 refine aP we.all (by kernel_rfl) (by kernel_rfl) (n:=BD AN) (by kernel_rfl) (fun _=>rfl) fun s rest os=>?_
 unfold yA;split
 ·rename_i x s;rintro⟨hs,hok⟩;refine⟨VC (by kernel_rfl),fun objs hr=>?_⟩;obtain⟨hl,hO⟩:=ai x objs hr;refine⟨_,26,hO,VC (by kernel_rfl),?_⟩;have h:=uX hok;rw[<-hs]at h;refine Ak.sub (Ak.mono h ?_) fun b hb=>?_
  ·rintro v H ⟨rfl,g20,g30⟩;refine⟨[30],by decide,fun b hb=>(by rw[I6]at hb;rw[hb];decide),rfl,rfl,fun j b o hj ho=>?_,fun j o hj hm ho=>?_⟩
   ·match j,hj,ho with
    | 0,hj,ho=>cases hj;cases ho;exact⟨_,rfl,g30⟩
    | j+1,hj,_=>cases hj
   ·have hj:j=0:=by have hj:j < 0+1:=hj;omega
    subst hj;cases ho
    exact⟨_,rfl,g20⟩
  ·rw[hl];refine⟨b - 20,by omega,?_⟩;show b=if b - 20=0 then 20 else 20+(0+1)+(b - 20 - 1)
   split<;>omega
 ·exact trivial
structure IQ where
 b:Nat
 n:Nat
 c:Nat
 g:Value->AL
structure jG (get:AL->Option IQ):Prop where
 at_:∀{args w},get args=some w->args=w.g (.slice (some ⟨w.b,0,none⟩) w.n w.c)
 rel:∀{args w},get args=some w->∀{μ:Ae} {v v2:Value} {l:AL},(∀x,AH μ v x->AH μ v2 x)->Am μ (w.g v) l->Am μ (w.g v2) l
 bN:∀{args w},get args=some w->∀{μ:Ae} {l:AL},Am μ args l->∃x,AH μ (.slice (some ⟨w.b,0,none⟩) w.n w.c) x
def PT.hint (w:Value):PT->PT
 | .fail=> .fail
 | .ret x=> .ask (x.v=w) (.ret ⟨w,x.nx,x.news⟩)
 | .test c a b=> .test c (a.hint w) (b.hint w)
 | .ask p a=> .ask p (a.hint w)
def Zv (w:Value) (q:Gk):Gk:=fun p rest os=>(q p rest os).hint w
theorem NS {w:Value}:∀{t:PT} {x:Vm},(t.hint w).gt.run=some x->t.gt.run=some x
 | .fail,_,h=>h
 | .ret y,x,h=>by
  simp only[PT.hint,PT.gt,GT.run]at h ⊢;split at h
  ·rename_i e;rw[e];exact h
  ·cases h
 | .test c a b,x,h=>by
  cases c
  ·exact NS (t:=b) h
  ·exact NS (t:=a) h
 | .ask p a,x,h=>by
  simp only[PT.hint,PT.gt,GT.run]at h ⊢;split at h
  ·rename_i hp;rw[HI hp];exact NS (t:=a) h
  ·cases h
theorem M0 (w:Value) (q:Gk):∀a o x,(CX 20 (Zv w q) a o).run=some x->(CX 20 q a o).run=some x:=IU fun _ _ _ _ hx=>NS hx
def ON (f:FuncId) (w:Value) (q:Gk):GA:=(f,Ai AI 20 [true] (CX 20 q),Cs AI 20 [true] (CX 20 (Zv w q)))
def TN:AL->Option IQ
 | [d,i,.slice (some ⟨b,0,none⟩) n c]=>some ⟨b,n,c,fun v=>[d,i,v]⟩
 | _=>none
def uw:DO:=fun args H=>match args with
 | []=>some (.bool true,H)
 | _=>none
def yQ:HL:=fun args H K=>match args with
 | []=>K (.bool true) H
 | _=>False
def wO (l:List B2) (m:Nat):PF:=Eo l (Mc m) 0 Oo
def Jo (_:BT):Bool:=false
theorem KE {G G2:AL->BN->GT} {m:List Bool} (h:∀a o x,(G2 a o).run=some x->(G a o).run=some x):Xf (Ai AI 20 m G) (Cs AI 20 m G2):=fun X g hX args H K hk=>by
 have hctx:(⟨X.P,X.laid,fun _=>some (Ai AI 20 m G2),X.BJ⟩:Ctx).IN g=some (Ai AI 20 m G2):=rfl;obtain⟨v,H',h1,h2⟩:=Gq hctx hk;refine⟨v,H',?_,h2⟩;unfold CP at h1 ⊢;simp only[hX]at h1 ⊢;exact LL h h1
theorem tL:Xf uw yQ:=fun X g hX args H K hk=>by
 unfold yQ at hk;split at hk
 ·refine⟨_,H,?_,hk⟩;unfold CP;simp only[hX];rfl
 ·exact hk.elim
variable (hW:CY Tryz.prog AI Dj uw)
include hW in
def lU (m:AS):Int:=IntKind.wrap .i64 ((m.b.length:Int) - m.Ej)
structure WZ (d:Ab):Prop where
 yF:∀i:Nat,i < 7->Lb d i lU=0/\Lp d i=0
 sy:Rj d
 e:(HU d (Bo d)).1=0
 ops:(HU d (Bo d)).2.ops=d.ops
section
variable {l:List B2} {L:Nat->Aw} {u:Nat->Int} {k:Int}
include hW in
structure ju (d:Ab) (L:Nat->Aw) (s:Int):Prop where
 sc:N9 d
 lo:0<=s
 hi:s < 7
 es:s < 5->V4 (EG d) s.toNat/\PR (Ux (EG d) s) (L s.toNat) (Ux (EG d) s).length (L s.toNat).length
include hW in
structure ij (d:Ab):Prop where
 dn:d.down=false
 bad:∀i:Nat,i < 7->Ba d.BB i=false
 sc:N9 d
 rd:kR d
end
end Go.AD
namespace Go.AD
open Go.Proofs
def cTe:List GA:=[GQ AF [] xy,
 (DQ,Ai AI 20 [true] (CX 20 (HK fun m=>m.b.length)),Cs AI 20 [true] (CX 20 oa)),
 (Cb,Ai AI 20 [true] (CX 20 M4),Cs AI 20 [true] (CX 20 fR)),
 ON NJ (int 0) (TB Jj BP.done),ON By (int 0) Pv,
 GQ Ac [true] (CX 20 jh),GQ AN [true] (CX 20 yA),GQ A6 [] xv,(Dj,uw,yQ)]
abbrev XTe:Ctx:=Bp Tryz.prog AI (Cv cTe)
def zZ (live:AW):Stop:=⟨AG,0,3,22,[20,21],live⟩
def gV (S:Stop) (h1:BT->Bool) (S2:Stop) (h2:BT->Bool) (Q:Bm) (R R2:Bz) (x:BT):Prop:=NH XTe (Ax cTe) [] AG [] S h1 S2 h2 [] Q R R2 900 x
abbrev iC (n:Nat) (c:BT):Bool:=Il AG n c
def teF (l:List B2) (tl raw:Ad) (d:Ab) (L:Nat->Aw) (u:Nat->Int):BN:=[.vec JQ l true,.vec kB tl true,.cells [At 24,Ao 25 (L 0).length,Ao 26 (L 1).length,Ao 27 (L 2).length,Ao 28 (L 3).length,Ao 29 (L 4).length,int (u 0),int (u 1),int (u 2),int (u 3),int (u 4)] 0 false,.vec kB raw false,.abs (.pack (.dev d)) false,.vec Ah (L 0) false,.vec Ah (L 1) false,.vec Ah (L 2) false,.vec Ah (L 3) false,.vec Ah (L 4) false]
def zU (t:Tr Value) (todo:List B9):Aj:=⟨AG,t,BD AG,todo,[],false,.normal,none⟩
abbrev zF (p:AW):Code:=A9 Tryz.prog AG p
def AAQ (l:List B2) (tl raw:Ad) (d:Ab) (L:Nat->Aw) (u:Nat->Int) (tm rm:Nat) (a s n:Int):BT:=⟨zU (EZ [(2,Ao 21 tm),(3,.int .u16 a),(9,At 22),(10,int s),(11,int n),(13,Ao 23 rm)]) [.code (zF [1,1,1,1,1,1,1,0]),.code (zF [1,1,1,1,1,1,1,1])],[],hp (teF l tl raw d L u)⟩
theorem AAW (l:List B2) (tl:Ad) (m tm:Nat) (a k:Int) (Q:Bm) (R:Bz):gV (zZ [2,3,9,10,11,13]) (iC 9) (zZ []) Jo Q R (fun _=>False) (st AG [Ao 20 m,.int .u8 a,Ao 21 tm,.int .u16 k] (hp [.vec JQ l true,.vec kB tl true]))=(
 let c:=PF.d (Eo l (Mc m) 0 Oo);let b:=IntKind.wrap .i64 (Int.tmod a 5);let e:=Ed c b 0 (A8 c b);(m=l.length/\WI l (Mc m) 0 Oo)/\(Ab.down c=false/\Ba (Ab.BB c) b=false)/\((Bool.rec (bif Ba (Ab.BB c) b then false else !Ij (CV c b) 0 (A8 c b)) false (Ab.down c))=(true))/\(bif Int.ofNat e.length != A8 c b then(Q (.bool false) [])else(R (AAQ l tl e (wO l m).d (wO l m).L (wO l m).u tm e.length k b (A8 c b))))):=by kernel_rfl
def teO:AW:=[20,21,22,23,24,25,26,27,28,29]
def bH:Stop:=⟨AG,0,4,30,teO,[2,9,10,11,13,16,81,82,83]⟩
def kb:Stop:=⟨AG,0,4,30,teO,[2,9,10,11,13,15]⟩
def AAZ:AW:=[1,1,1,1,1,1,1,1,0,1,0,1,0,1,0,0]
def y8 (l:List B2) (tl raw:Ad) (d:Ab) (L:Nat->Aw) (u:Nat->Int) (tm rm:Nat) (s:Nat) (n p:Int) (i:Int):BT:=⟨zU (EZ [(2,Ao 21 tm),(9,At 22),(10,int (s:Nat)),(11,int n),(13,Ao 23 rm),(16,int p),(81,Ao (25+s) (L s).length),(82,int (L s).length),(83,int i)]) [.code (zF AAZ),.inLoop (zF AAZ),.inBlock 0,.code (zF [1,1,1,1,1,1,1,1,0,1,0,1,1]),.code (zF [1,1,1,1,1,1,1,1,1])],[],hp (teF l tl raw d L u)⟩
def Zp (l:List B2) (tl raw:Ad) (d:Ab) (L:Nat->Aw) (u:Nat->Int) (tm rm:Nat) (s:Nat) (n w:Int):BT:=⟨zU (EZ [(2,Ao 21 tm),(9,At 22),(10,int (s:Nat)),(11,int n),(13,Ao 23 rm),(15,int w)]) [.code (zF [1,1,1,1,1,1,1,1,1,0]),.code (zF [1,1,1,1,1,1,1,1,1,1])],[],hp (teF l tl raw d L u)⟩
def AAd:AW:=[1,1,1,1,1,1,1,1,0,1,0,1,1,1,1,1,0,0]
def ch:Stop:=⟨AG,0,3,30,teO,[2,9,10,11,13,15,16,112,113,114]⟩
def zA (l:List B2) (tl raw:Ad) (d:Ab) (L:Nat->Aw) (u:Nat->Int) (tm rm:Nat) (s:Nat) (n p w:Int) (i:Int):BT:=⟨zU (EZ [(2,Ao 21 tm),(9,At 22),(10,int (s:Nat)),(11,int n),(13,Ao 23 rm),(15,int w),(16,int p),(112,Ao (25+s) (L s).length),(113,int (L s).length),(114,int i)]) [.code (zF AAd),.inLoop (zF AAd),.inBlock 2,.code (zF [1,1,1,1,1,1,1,1,1])],[],hp (teF l tl raw d L u)⟩
def zx (b:Int):Int:=IntKind.wrap .u8 ((BitVec.toNat (BitVec.ofInt (IntKind.bits .u8) b ^^^ BitVec.ofInt (IntKind.bits .u8) 1):Nat):Int)
theorem zt {s:Nat} (hs:s < 5) (l:List B2) (tl raw:Ad) (d:Ab) (L:Nat->Aw) (u:Nat->Int) (tm rm:Nat) (a n:Int) (Q:Bm) (R R2:Bz):gV bH (fun c=>bH.here c) kb (iC 27) Q R R2 (AAQ l tl raw d L u tm rm a s n)=
 (bif decide (n > 0)then(bif decide (n≠0)then R (y8 l tl raw d L u tm rm s n (Int.tmod (IntKind.wrap .i64 a) n) 0)else False)
 else R2 (Zp l tl raw d L u tm rm s n (Int.ofNat (L s).length))):=by
 match s,hs with
 | 0,_=>show _=_;kernel_rfl
 | 1,_=>show _=_;kernel_rfl
 | 2,_=>show _=_;kernel_rfl
 | 3,_=>show _=_;kernel_rfl
 | 4,_=>show _=_;kernel_rfl
 | s+5,h=>exact absurd h (by omega)
theorem za {s:Nat} (hs:s < 5) (l:List B2) (tl raw:Ad) (d:Ab) (L:Nat->Aw) (u:Nat->Int) (tm rm:Nat) (n p:Int) (i:Int) (Q:Bm) (R R2:Bz):gV bH (fun c=>bH.here c&&Rg 0 c) ch (fun c=>ch.here c&&Rg 2 c) Q R R2 (y8 l tl raw d L u tm rm s n p i)=
 (bif decide (i < ((L s).length:Int))then(bif decide (0<=i)&&Nat.blt i.toNat (L s).length then(bif Nat.blt (0+i.toNat) (L s).length then
  (bif decide (IntKind.wrap .i64 (p - (DI (L s) (0+i.toNat)).2.2.2.2.1)≥5)then
   (bif decide (IntKind.wrap .i64 (p - (DI (L s) (0+i.toNat)).2.2.2.2.1)<=7)then R (y8 l tl raw d L u tm rm s n (IntKind.wrap .i64 ((DI (L s) (0+i.toNat)).2.2.2.2.1+8)) (IntKind.wrap .i64 (i+1)))
   else R (y8 l tl raw d L u tm rm s n p (IntKind.wrap .i64 (i+1))))
  else R (y8 l tl raw d L u tm rm s n p (IntKind.wrap .i64 (i+1))))else False)else False)
 else(bif decide (0<=p)&&Nat.blt p.toNat rm then(bif Nat.blt (0+p.toNat) raw.length then(bif decide (0<=p)&&Nat.blt p.toNat rm then(bif Nat.blt (0+p.toNat) raw.length then
  R2 (zA l tl (raw.set (0+p.toNat) (zx (raw.getD (0+p.toNat) 0))) d L u tm rm s n p 0 0)else False)else False)else False)else False)):=by
 match s,hs with
 | 0,_=>show _=_;kernel_rfl
 | 1,_=>show _=_;kernel_rfl
 | 2,_=>show _=_;kernel_rfl
 | 3,_=>show _=_;kernel_rfl
 | 4,_=>show _=_;kernel_rfl
 | s+5,h=>exact absurd h (by omega)
theorem zh {s:Nat} (hs:s < 5) (l:List B2) (tl raw:Ad) (d:Ab) (L:Nat->Aw) (u:Nat->Int) (tm rm:Nat) (n p w:Int) (i:Int) (Q:Bm) (R R2:Bz):gV ch (fun c=>ch.here c&&Rg 2 c) kb (iC 27) Q R R2 (zA l tl raw d L u tm rm s n p w i)=
 (bif decide (i < ((L s).length:Int))then(bif decide (0<=i)&&Nat.blt i.toNat (L s).length then(bif Nat.blt (0+i.toNat) (L s).length then
  (bif decide (IntKind.wrap .i64 ((DI (L s) (0+i.toNat)).2.2.2.2.1+(DI (L s) (0+i.toNat)).2.2.2.2.2)<=p)then R (zA l tl raw d L u tm rm s n p (IntKind.wrap .i64 (w+1)) (IntKind.wrap .i64 (i+1)))
  else R (zA l tl raw d L u tm rm s n p w (IntKind.wrap .i64 (i+1))))else False)else False)
 else R2 (Zp l tl raw d L u tm rm s n w)):=by
 match s,hs with
 | 0,_=>show _=_;kernel_rfl
 | 1,_=>show _=_;kernel_rfl
 | 2,_=>show _=_;kernel_rfl
 | 3,_=>show _=_;kernel_rfl
 | 4,_=>show _=_;kernel_rfl
 | s+5,h=>exact absurd h (by omega)
def AAI:Stop:=⟨AG,0,3,30,teO,[2,9,10,11,13,15]⟩
def zP (l:List B2) (tl raw:Ad) (d:Ab) (L:Nat->Aw) (u:Nat->Int) (rm s:Nat) (n w:Int) (t2:Ad) (m:Nat):BT:=⟨zU (EZ [(2,Ao 30 m),(9,At 22),(10,int (s:Nat)),(11,int n),(13,Ao 23 rm),(15,int w)]) [.code (zF [1,1,1,1,1,1,1,1,1,1,0,0]),.code (zF [1,1,1,1,1,1,1,1,1,1,0,1]),.code (zF [1,1,1,1,1,1,1,1,1,1,1])],[],hp (teF l tl raw d L u++[.vec kB t2 false])⟩
def zH:Stop:=⟨AG,0,3,30,teO,[10,15,22,183,184]⟩
def AAc:AW:=[1,1,1,1,1,1,1,1,1,1,1,1,1,0,1,0,0]
def iA (l:List B2) (tl raw:Ad) (d:Ab) (x:Cm) (L:Nat->Aw) (u:Nat->Int) (s:Nat) (w:Int) (i:Int):BT:=⟨zU (EZ [(10,int (s:Nat)),(15,int w),(22,At 30),(183,.agg ⟨[Ao 25 (L 0).length,Ao 26 (L 1).length,Ao 27 (L 2).length,Ao 28 (L 3).length,Ao 29 (L 4).length]⟩),(184,int i)]) [.code (zF AAc),.inLoop (zF AAc),.inBlock 4,.code (zF [1,1,1,1,1,1,1,1,1,1,1,1,1,1])],[],hp (teF l tl raw d L u++[.abs (.pack (.idx x)) false])⟩
abbrev lu (c:BT):Bool:=zH.here c&&Rg 4 c
theorem AAR (l:List B2) (tl raw:Ad) (d:Ab) (L:Nat->Aw) (u:Nat->Int) (tm rm s:Nat) (n w:Int) (Q:Bm) (R:Bz):gV AAI (iC 28) (zZ []) Jo Q R (fun _=>False) (Zp l tl raw d L u tm rm s n w)=(
 let c:=if 60 < Int.ofNat tm then 60 else Int.ofNat tm;let a:=c.toNat - 0;let h:=IntKind.wrap .i64 (5+Int.ofNat a) < 0;let f:=zP l tl raw d L u rm s n w ([1,2,3,4,255]++List.take a (List.drop 0 tl)) (5+a);let b:=IntKind.wrap .i64 (5+Int.ofNat a) - 0;let g:=IntKind.wrap .i64 b;let e:=List.take 0 (List.drop 0 (List.replicate g.toNat 0))++[1,2,3,4,255];(bif decide (0<=if 60 < Int.ofNat tm then 60 else Int.ofNat tm)&&Nat.ble c.toNat tm&&decide (0<=0)&&Nat.ble 0 c.toNat then(bif decide h then False else(bif decide h then False else(bif decide (IntKind.wrap .i64 b > 0)then(bif decide (0<=IntKind.wrap .i64 b)&&decide (IntKind.wrap .i64 b<=140737488355328)then(bif Nat.beq g.toNat 0 then(bif Nat.ble (0+a) tl.length&&BQ 1 (5+a)then(R f)else False)else(bif BQ 1 g.toNat then(bif Nat.ble (0+a) tl.length&&Nat.ble 5 e.length&&BQ 1 (5+a)then(R (zP l tl raw d L u rm s n w (List.take 5 (List.drop 0 e)++List.take a (List.drop 0 tl)) (5+a)))else False)else False))else False)else(bif Nat.ble (0+a) tl.length&&BQ 1 (5+a)then(R f)else False))))else False)):=by kernel_rfl
theorem AAP (l:List B2) (tl raw:Ad) (d:Ab) (L:Nat->Aw) (u:Nat->Int) (rm s:Nat) (n w:Int) (t2:Ad) (m:Nat) (Q:Bm) (R:Bz):gV zH lu (zZ []) Jo Q R (fun _=>False) (zP l tl raw d L u rm s n w t2 m)=(
 let c:=Ma d ((s:Int)) Jj BP.done;let a:=DX c.2 ((s:Int)) (List.take rm raw);let b:=DX a.2 ((s:Int)) (List.take m t2);(((int c.1):Value)=(int 0))/\(rm<=raw.length)/\(((int a.1):Value)=(int 0))/\(bif decide (IntKind.wrap .i64 (n+Int.ofNat m)<=600)then(m<=t2.length)/\(((int b.1):Value)=(int 0))/\(N9 b.2)/\(R (iA l tl raw b.2 (EG b.2) L u s w 0))else(N9 a.2)/\(R (iA l tl raw a.2 (EG a.2) L u s w 0)))):=by kernel_rfl
theorem AAM {i:Nat} (hi:i < 5) (l:List B2) (tl raw:Ad) (d:Ab) (x:Cm) (L:Nat->Aw) (u:Nat->Int) (s:Nat) (w:Int) (Q:Bm) (R:Bz):gV zH lu (zZ []) Jo Q R (fun _=>False) (iA l tl raw d x L u s w (i:Nat))=
 (bif ((i:Nat):Int)==(s:Int)then
  (bif decide (0<=w)&&Nat.ble (Int.toNat w) (L i).length&&decide ((0:Int)<=0)&&Nat.ble 0 (Int.toNat w)then
   ((i:Int)=(i:Int)/\V4 x i)/\PR (Ux x (i:Nat)) (L i) (Ux x (i:Nat)).length (Int.toNat w - 0)/\R (iA l tl raw d x L u s w ((i+1:Nat):Int))else False)
  else((i:Int)=(i:Int)/\V4 x i)/\PR (Ux x (i:Nat)) (L i) (Ux x (i:Nat)).length (L i).length/\R (iA l tl raw d x L u s w ((i+1:Nat):Int))):=by
 match i,hi with
 | 0,_=>show _=_;kernel_rfl
 | 1,_=>show _=_;kernel_rfl
 | 2,_=>show _=_;kernel_rfl
 | 3,_=>show _=_;kernel_rfl
 | 4,_=>show _=_;kernel_rfl
 | i+5,h=>exact absurd h (by omega)
theorem AAT (l:List B2) (tl raw:Ad) (d:Ab) (x:Cm) (L:Nat->Aw) (u:Nat->Int) (s:Nat) (w:Int) (Q:Bm) (R:Bz):gV zH lu (zZ []) Jo Q R (fun _=>False) (iA l tl raw d x L u s w 5)=(
 (Q (.bool true) [])):=by kernel_rfl
theorem oo {a x t:Nat} (ht:t < 8) (ha:a < 2 ^ (8 * t)) (hx:x < 256):yD (a:Int) (x:Int) (8 * t)=((a+2 ^ (8 * t) * x:Nat):Int):=by
 have hp:2 ^ (8 * t)<=2 ^ 56:=Nat.pow_le_pow_right (by decide) (by omega);have hp56:(2:Nat) ^ 56=72057594037927936:=by decide
 have hmul:2 ^ (8 * t) * x<=2 ^ 56 * 255:=Nat.mul_le_mul hp (by omega);have hsum:a+2 ^ (8 * t) * x < 18446744073709551616:=by omega
 unfold yD;have e0:min (8 * t) (IntKind.bits .u64)=8 * t:=bV (by show 8 * t<=64;omega);rw[e0];have e1:IntKind.wrap .u64 (x:Int)=(x:Int):=M9 (by omega) (by omega);rw[e1];have e2:((x:Int) * 2 ^ (8 * t))=((2 ^ (8 * t) * x:Nat):Int):=by
  rw[ACB,Int.mul_comm,Int.natCast_pow];rfl
 have e5:IntKind.wrap .u64 ((2 ^ (8 * t) * x:Nat):Int)=((2 ^ (8 * t) * x:Nat):Int):=M9 (by omega) (by omega);rw[e2,e5];have e3:∀y:Nat,BitVec.toNat (BitVec.ofInt (IntKind.bits .u64) (y:Int))=y % 2 ^ 64:=fun y=>by
  show BitVec.toNat (BitVec.ofInt 64 (y:Int))=_;rw[jF,jS]
 have e4:(BitVec.ofInt (IntKind.bits .u64) (a:Int) ||| BitVec.ofInt (IntKind.bits .u64) ((2 ^ (8 * t) * x:Nat):Int)).toNat=a+2 ^ (8 * t) * x:=by
  rw[BitVec.toNat_or,e3,e3,ABj (by omega),ABj (by omega)];have h:=Nat.shiftLeft_add_eq_or_of_lt ha x;rw[Nat.shiftLeft_eq,ABu]at h;rw[Nat.or_comm,<-h,AB7]
 rw[e4];exact M9 (by omega) (by omega)
theorem VX {g:Nat->Int} {Q:Nat}:∀(w:Nat),w<=8->(∀t,t < w->g t=((Q / 2 ^ (8 * t) % 256:Nat):Int))->JU g w=((Q % 2 ^ (8 * w):Nat):Int)
 | 0,_,_=>by
  show(0:Int)=((Q % 2 ^ 0:Nat):Int);rw[AB9,Nat.mod_one];rfl
 | w+1,hw,hg=>by
  unfold JU;rw[VX w (by omega) (fun t ht=>hg t (by omega)),hg w (by omega)];rw[oo (by omega) (ABh _ (Nat.two_pow_pos _)) (ABh _ (by decide))]
  congr 1
  have e:(2:Nat) ^ (8 * (w+1))=2 ^ (8 * w) * 256:=by rw[show 8 * (w+1)=8 * w+8 from by omega,Nat.pow_add]
  rw[e,Nat.mod_mul]
theorem l5 {Q w t:Nat} (ht:t < w) (hw:w<=8):(IM (Q:Int) w)[t]? = some ((Q / 2 ^ (8 * t) % 256:Nat):Int):=by
 unfold IM;rw[LW,AA5 ht,WE]
 congr 1
 have e0:min (8 * t) (IntKind.bits .u64)=8 * t:=bV (by show 8 * t<=64;omega);rw[e0];have e1:(2:Int) ^ (8 * t)=((2 ^ (8 * t):Nat):Int):=(Int.natCast_pow 2 (8 * t)).symm;rw[e1,ABT _ (WQ _),<-Int.natCast_ediv];generalize Q / 2 ^ (8 * t)=y;simp[IntKind.wrap,IntKind.bits,IntKind.signed]
theorem mX {l:Ad} {p Q w:Nat} (hw:w<=8) (hQ:Q < 2 ^ (8 * w)) (hl:∀t,t < w->l[p+t]? = (IM (Q:Int) w)[t]?):JU (EC l p) w=(Q:Int):=by
 rw[VX (Q:=Q) w hw fun t ht=>?_,ABj hQ];unfold EC;rw[F5,hl t ht,l5 ht hw];rfl
theorem Lt (s:As):Fy (B1 s)=s:=by
 unfold Fy B1;rw[ABN];have:(s.data.toList.map ((fun n:Int=>UInt8.ofNat n.toNat) ∘ fun b=>(b.toNat:Int)))=s.data.toList:=by
  refine(AAp (g:=id) fun b _=>?_).trans (AB0 _);show UInt8.ofNat ((b.toNat:Int)).toNat=b;rw[HR];exact UInt8.ofNat_toNat
 rw[this]
def Tf (l:Ad) (j:Nat) (bs:Ad):Prop:=∀t,t < bs.length->l[j+t]? = bs[t]?
theorem Tf.left {l:Ad} {j:Nat} {A B:Ad} (h:Tf l j (A++B)):Tf l j A:=fun t ht=>by
 rw[h t (by rw[Fu];omega),SB ht]
theorem Tf.right {l:Ad} {j:Nat} {A B:Ad} (h:Tf l j (A++B)):Tf l (j+A.length) B:=fun t ht=>by
 have:=h (A.length+t) (by rw[Fu];omega);rw[WO (Nat.le_add_right _ _),ABJ]at this;rw[XY,this]
theorem Tf.take {l:Ad} {j:Nat} {A:Ad} (h:Tf l j A):(l.drop j).take A.length=A:=by
 apply ABQ
 intro t;rw[Ul,Vs];split
 ·rename_i ht;exact h t ht
 ·rename_i ht;rw[NC (by omega)]
theorem Tf.num {l:Ad} {j Q w:Nat} (h:Tf l j (IM (Q:Int) w)) (hw:w<=8) (hQ:Q < 2 ^ (8 * w)):JU (EC l j) w=(Q:Int):=
 mX hw hQ fun t ht=>h t (by rw[JX];exact ht)
theorem o6 {l:Ad} {j:Nat} {S K A B Q:Nat} (hS:S < 4294967296) (hK:K < 256) (hA:A < 256) (hB:B < 65536) (hQ:Q < 9223372036854775808) (h:Tf l j (UD S K A B Q)):BS l j=⟨S,K,A,B,Q⟩:=by
 unfold UD at h;have h8:=h.right;have h6:=h.left.right;have h5:=h.left.left.right;have h4:=h.left.left.left.right;have h0:=h.left.left.left.left;simp only[Fu,JX]at h8 h6 h5 h4;have n0:=h0.num (by decide) (by rw[show(2:Nat) ^ (8 * 4)=4294967296 from by decide];exact hS);have n4:=h4.num (by decide) (by rw[show(2:Nat) ^ (8 * 1)=256 from by decide];exact hK);have n5:=h5.num (by decide) (by rw[show(2:Nat) ^ (8 * 1)=256 from by decide];exact hA);have n6:=h6.num (by decide) (by rw[show(2:Nat) ^ (8 * 2)=65536 from by decide];exact hB);have n8:=h8.num (by decide) (by rw[show(2:Nat) ^ (8 * 8)=18446744073709551616 from by decide];omega);unfold BS;rw[show j+(4+1)=j+5 from rfl]at n5;rw[show j+(4+1+1)=j+6 from rfl]at n6;rw[show j+(4+1+1+2)=j+8 from rfl]at n8;rw[AAg,n0,n4,n5,n6,n8];have w32:IntKind.wrap .u32 (S:Int)=(S:Int):=by simp[IntKind.wrap,IntKind.bits,IntKind.signed];omega
 have w64':∀x:Nat,x < 9223372036854775808->IntKind.wrap .i64 (x:Int)=(x:Int):=fun x hx=>wrap64 (by omega) (by omega)
 rw[w32,w64' K (by omega),w64' A (by omega),w64' B (by omega),w64' Q hQ]
structure C2 where
 k:Nat
 q:Nat
 a:As
 b:As
def C2.ok (r:C2):Prop:=DR r.k r.q r.a r.b=true
def C2.bytes (r:C2):Ad:=E3 r.k r.q r.a r.b
def C2.size (r:C2):Nat:=Bu r.a r.b
theorem C2.len (r:C2):r.bytes.length=r.size:=E9 _ _ _ _
theorem U1 {r:C2} (h:r.ok) {l:Ad} {j:Nat} (hp:Tf l j (UD (EA r.k r.q r.a r.b) r.k r.a.size r.b.size r.q)):BS l j=⟨EA r.k r.q r.a r.b,r.k,r.a.size,r.b.size,r.q⟩:=by
 have hF:=JH h;obtain⟨s0,s1⟩:=aA 0 (Wq r.k r.q r.a r.b);have hs:EA r.k r.q r.a r.b=Er 0 (Wq r.k r.q r.a r.b):=rfl;rw[<-hs]at s0 s1;obtain⟨S,hS⟩:∃S:Nat,EA r.k r.q r.a r.b=(S:Int):=⟨(EA r.k r.q r.a r.b).toNat,by omega⟩
 rw[hS]at hp ⊢ s1;have q1:=hF.q1;have a1:=hF.a1;have b1:=hF.b1;have hk:=hF.hk;exact o6 (by omega) (by rcases hk with hk | ⟨hk,_⟩<;>omega) (by omega) (by omega) (by omega) hp
theorem me {r:C2} (h:r.ok) (S:Int):Ex ⟨S,r.k,r.a.size,r.b.size,r.q⟩=true/\((r.k:Int)==3)=false:=by
 have hF:=JH h;have q0:=hF.q0;have q1:=hF.q1;have a0:=hF.a0;have a1:=hF.a1;have b1:=hF.b1;have d:∀{p:Prop} [Decidable p],p->decide p=true:=fun h=>Fp h
 have b0:(0:Int)<=(r.b.size:Int):=WQ _;rcases hF.hk with hk | ⟨hk,hb⟩
 ·rw[hk];refine⟨?_,rfl⟩;unfold Ex mQ;show(decide ((r.a.size:Int)≥1)&&decide ((r.a.size:Int)<=32)&&decide ((r.b.size:Int)≥0)&&decide ((r.b.size:Int)<=512)&&decide ((r.q:Int)≥1)&&decide ((r.q:Int)<=1099511627776))=true;rw[d (show(r.a.size:Int)≥1 by omega),d (show(r.a.size:Int)<=32 by omega),d (show(r.b.size:Int)≥0 by omega),d (show(r.b.size:Int)<=512 by omega),d (show(r.q:Int)≥1 by omega),d (show(r.q:Int)<=1099511627776 by omega)];rfl
 ·rw[hk];refine⟨?_,rfl⟩;unfold Ex mQ;show(decide ((r.a.size:Int)≥1)&&decide ((r.a.size:Int)<=32)&&decide ((r.b.size:Int)≥0)&&decide ((r.b.size:Int)<=0)&&decide ((r.q:Int)≥1)&&decide ((r.q:Int)<=1099511627776))=true;rw[d (show(r.a.size:Int)≥1 by omega),d (show(r.a.size:Int)<=32 by omega),d (show(r.b.size:Int)≥0 by omega),d (show(r.b.size:Int)<=0 by omega),d (show(r.q:Int)≥1 by omega),d (show(r.q:Int)<=1099511627776 by omega)];rfl
theorem jV {r:C2} {S:Int}:JT ⟨S,r.k,r.a.size,r.b.size,r.q⟩=r.size:=rfl
theorem dH {r:C2} (h:r.ok) {l:Ad} {j n:Nat} (hp:Tf l j r.bytes) (hn:r.size<=n):GO l j n=true/\JT (BS l j)=r.size/\(BS l j).k=r.k/\(BS l j).q=r.q/\Nw l j=r.a/\RP l j=r.b:=by
 have hp':Tf l j (UD (EA r.k r.q r.a r.b) r.k r.a.size r.b.size r.q++(B1 r.a++B1 r.b)):=hp;have hh:=U1 h hp'.left;have h16:16<=r.size:=by unfold C2.size Bu;omega
 have hA:=hp'.right.left;have hB:=hp'.right.right;rw[LJ]at hA hB;rw[C0]at hB;have eK:Nw l j=r.a:=by
  unfold Nw;rw[hh];have:=hA.take;rw[C0]at this;show Fy ((l.drop (j+16)).take r.a.size)=_;rw[this,Lt]
 have eW:RP l j=r.b:=by
  unfold RP;rw[hh];have:=hB.take;rw[C0]at this;show Fy ((l.drop (j+16+r.a.size)).take r.b.size)=_;rw[this,Lt]
 refine⟨?_,by rw[hh];rfl,by rw[hh],by rw[hh],eK,eW⟩;unfold GO;rw[eK,eW,hh,jV];obtain⟨c1,c2⟩:=me h (EA r.k r.q r.a r.b);rw[c1];have e1:(decide (Int.ofNat n < 16))=false:=GP (by show ¬((n:Int) < 16);omega);rw[e1,B0 hn];have e2:Er 0 ((l.drop (j+4)).take (r.size - 4))=EA r.k r.q r.a r.b:=by
  have:=hp.take;rw[r.len]at this;have e:(l.drop (j+4)).take (r.size - 4)=r.bytes.drop 4:=by
   rw[<-this,ABM,AAx]
  rw[e];unfold EA
  congr 1
 rw[e2];show(!false&&(true&&(!((r.k:Int)==3)&&(true&&((EA r.k r.q r.a r.b==EA r.k r.q r.a r.b)&&DR r.k r.q r.a r.b)))))=true;rw[c2,AA2,show DR r.k r.q r.a r.b=true from h];rfl
theorem ic {r:C2} (h:r.ok) {l:Ad} {j n:Nat} (hp:Tf l j (r.bytes.take n)) (hn:n < r.size):GO l j n=false:=by
 unfold GO
 by_cases h16:n < 16
 ·rw[Fp (show Int.ofNat n < 16 by show(n:Int) < 16;omega)];rfl
 ·have hp16:Tf l j (UD (EA r.k r.q r.a r.b) r.k r.a.size r.b.size r.q):=by
   intro t ht;rw[LJ]at ht;have:=hp t (by rw[IP,r.len];omega);rw[this,Ul,HI (by omega)];unfold C2.bytes E3;rw[SB (by rw[LJ];exact ht)]
  rw[U1 h hp16,jV];have:Nat.ble r.size n=false:=by
   cases hb:Nat.ble r.size n
   ·rfl
   ·have:=VC hb;omega
  rw[this];cases decide (Int.ofNat n < 16)<;>cases Ex _<;>simp
def B3 (rs:List C2):Ad:=rs.flatMap C2.bytes
def Ou (s:Int) (off:Nat) (r:C2):NQ:=((r.q:Int),r.a,(r.k:Int)==2,s,(off:Int),(r.size:Int))
def D4 (s:Int):Nat->List C2->Aw
 | _,[]=>[]
 | off,r::rs=>Ou s off r::D4 s (off+r.size) rs
def Q4 (n:Nat):Nat->List C2->List C2
 | _,[]=>[]
 | off,r::rs=>if off+r.size<=n then r::Q4 n (off+r.size) rs else []
theorem C2.Xo (r:C2):16<=r.size:=by unfold C2.size Bu;omega
theorem Ss {l:Ad} {s:Int}:∀(rs:List C2) (f off:Nat),(∀r∈rs,r.ok)->off<=l.length->l.length - off<=f->l.length<=off+(B3 rs).length->Tf l off ((B3 rs).take (l.length - off))->GS l 0 l.length s f off=D4 s off (Q4 l.length off rs)
 | [],f,off,_,h1,_,h3,_=>by
  have h3:l.length<=off+0:=h3;have e:l.length - off=0:=by omega
  cases f with
  | zero=>rfl
  | succ f=>
   unfold GS;have:GO l (0+off) (l.length - off)=false:=by
    rw[e];unfold GO;rfl
   rw[this];rfl
 | r::rs,f,off,hok,h1,h2,h3,hp=>by
  have hr:=hok r (bB ..);have h16:=r.Xo;have hB:B3 (r::rs)=r.bytes++B3 rs:=rfl;rw[hB]at h3 hp;rw[Fu,r.len]at h3;cases f with
  | zero=>
   have e:off=l.length:=by omega
   unfold Q4;rw[E7 (by omega)];rfl
  | succ f=>
   unfold GS Q4;rw[Hq]
   by_cases hf:off+r.size<=l.length
   ·have hw:Tf l off r.bytes:=by
     intro t ht;have:=hp t (by rw[IP,Fu];rw[r.len]at ht ⊢;omega);rw[this,Ul,HI (by rw[r.len]at ht;omega),SB ht]
    obtain⟨c1,c2,c3,c4,c5,c6⟩:=dH hr hw (show r.size<=l.length - off by omega);rw[c1,Al,HI hf];have ih:=Ss (l:=l) (s:=s) rs f (off+r.size) (fun x hx=>hok x (ZH _ hx)) hf (by omega) (by omega) (by
     intro t ht;rw[IP]at ht;have:=hp (r.size+t) (by rw[IP,Fu,r.len];omega);rw[Ul,HI (by omega),WO (by rw[r.len];omega),r.len,ABJ]at this;rw[XY,this,Ul,HI (by omega)])
    rw[c2,ih];show TL l 0 s off::_=Ou s off r::_
    congr 1
    unfold TL Ou;rw[Hq,c3,c4,c5,c6];rfl
   ·have hpt:Tf l off (r.bytes.take (l.length - off)):=by
     rw[TS (by rw[r.len];omega)]at hp;exact hp
    rw[ic hr hpt (by omega),E7 hf];rfl
theorem aU {n:Nat}:∀(rs:List C2) (off:Nat),off+(B3 rs).length<=n->Q4 n off rs=rs
 | [],_,_=>rfl
 | r::rs,off,h=>by
  have hB:B3 (r::rs)=r.bytes++B3 rs:=rfl;rw[hB,Fu,r.len]at h;unfold Q4;rw[HI (by omega),aU rs (off+r.size) (by omega)]
structure lh (x:Cm) (used:Int->Prop) (c:Nat):Prop where
 key:∀p∈x.keys,∀e∈p.2,used e.1
 kl:x.keys.length<=c
 ll:∀p∈x.keys,p.2.length<=c
structure xe (ls:Aw) (o:Int):Prop where
 all:∀e∈ls,0<=e.2.2.2.2.1/\1<=e.2.2.2.2.2/\e.2.2.2.2.1+e.2.2.2.2.2<=o
theorem WT {l:Aw} {m:Nat} (h:m < l.length):DI l m∈l:=by
 unfold DI;rw[F5,FL h];exact AA8 h
theorem ab {ls:Aw} {o:Int} (h:xe ls o):J7 ls o=ls.length:=by
 show Xc (fun m=>decide (G8 ls o m < 0)) ls.length 0 ls.length=ls.length;refine ZP _ ls.length ls.length 0 ls.length (by omega) (PM _) (CC _) fun m _ hm=>⟨fun _=>hm,fun _=>Fp ?_⟩
 obtain⟨h0,h1,h2⟩:=h.all _ (WT hm);unfold G8 LP;have hlt:(DI ls m).2.2.2.2.1 < o:=by omega
 simp[hlt]
theorem nu {ls:Aw} {o z:Int} (h:xe ls o) (ho:o<=1000000):S4 ls o z=false:=by
 unfold S4;rw[ab h];unfold Z7;rw[GP (iD ls.length),ABb,ABb,AAl,ABl]
 by_cases hl:(ls.length:Int) > 0
 ·obtain⟨h0,h1,h2⟩:=h.all _ (WT (l:=ls) (m:=ls.length - 1) (by omega));rw[wrap64 (by omega) (by omega),GP (show ¬(DI ls (ls.length - 1)).2.2.2.2.1+(DI ls (ls.length - 1)).2.2.2.2.2 > o from by omega),jP]
 ·rw[GP hl,ABb]
theorem QC {q:Int} {a:As} {d:Bool} {s z:Int}:∀(l:Aw) (hv:Bool),(∀e∈l,e.1≠q)->Ke q a d s z l hv=some hv
 | [],_,_=>rfl
 | e::r,hv,h=>by
  have h1:(e.1==q)=false:=fH.2 (h e (bB ..));unfold Ke;have hb:Qk q a d z e=false:=by unfold Qk;rw[h1];rfl
  have hs:PB q s e=false:=by unfold PB;rw[h1];rfl
  rw[hb,hs,Dg,ABl];exact QC r hv fun x hx=>h x (ZH _ hx)
theorem lH {x:Cm} {used:Int->Prop} {c:Nat} (h:lh x used c) (a:As):(∀e∈Mz x a,used e.1)/\(Mz x a).length<=c:=by
 cases hh:Ie x a
 ·have:Mz x a=[]:=by unfold Mz;rw[hh];rfl
  rw[this];exact⟨fun e he=>(by cases he),PM _⟩
 ·obtain⟨k,hk,_⟩:=jN hh;have hm:=VE hk;exact⟨fun e he=>h.key _ hm e he,h.ll _ hm⟩
theorem jj {l:Aw} {i:Nat} {e y:NQ} (h:y∈HF l i e):y∈l∨y=e:=by
 unfold HF at h;rcases List.mem_append.1 h with h | h
 ·exact .inl (ABE h)
 ·rcases List.mem_cons.1 h with h | h
  ·exact .inr h
  ·exact .inl (AAi h)
theorem sE {x:Cm} {used:Int->Prop} {c s:Nat} {q:Int} {a:As} {d:Bool} {o z:Int} (hx:lh x used c) (hc:c < 70000) (hs:s < x.AR.length) (hE:Mt q a d o z) (hq:¬used q) (hb:xe (C7 x s) o) (hsl:(C7 x s).length<=c):
 kF x (q,a,d,(s:Int),o,z)/\(fC x (q,a,d,(s:Int),o,z)).AR=x.AR.set s (C7 x s++[(q,a,d,(s:Int),o,z)])/\lh (fC x (q,a,d,(s:Int),o,z)) (fun t=>used t∨t=q) (c+1):=by
 obtain⟨u1,u2⟩:=lH hx a;have o1:o<=1000000:=by have:=hE.oz;have:=hE.z0;omega
 have hok:Lr x q a d s o z:=⟨hE,hs,by have:=hx.kl;omega,by omega,by omega⟩;have hne:∀e∈Mz x a,e.1≠q:=fun e he h=>hq (by rw[<-h];exact u1 e he)
 have hres:El x q a d s o z=0:=by
  unfold El ao;rw[QC _ _ hne,nu hb o1];rfl
 have hb0:(El x q a d s o z==0)=true:=by rw[hres];rfl
 have hX:fC x (q,a,d,(s:Int),o,z)=⟨Lq x q a d s o z,x.AR.set s (HF (C7 x s) (J7 (C7 x s) o) (q,a,d,(s:Int),o,z))⟩:=by
  show JO x q a d (Int.toNat (s:Int)) o z=_;rw[HR];unfold JO;rw[hb0,Al]
 refine⟨⟨⟨by rw[HR],by rw[HR];exact hok⟩,by rw[HR];exact hres⟩,?_,?_⟩
 ·rw[hX];show x.AR.set s _=_;rw[ab hb];unfold HF;rw[cl,AB5]
 ·rw[hX];cases hh:Ie x a
  ·have hk:Lq x q a d s o z=x.keys.take (Ey x a)++((a,[(q,a,d,(s:Int),o,z)])::x.keys.drop (Ey x a)):=by unfold Lq;rw[hh];rfl
   refine⟨fun p hp e he=>?_,?_,fun p hp=>?_⟩
   ·rw[hk]at hp;rcases List.mem_append.1 hp with hp | hp
    ·exact .inl (hx.key p (ABE hp) e he)
    ·rcases List.mem_cons.1 hp with hp | hp
     ·subst hp;rw[I6]at he;rw[he];exact .inr rfl
     ·exact .inl (hx.key p (AAi hp) e he)
   ·show(Lq x q a d s o z).length<=_;have:=hx.kl;rw[hk,Fu,IP,ZC,MQ];omega
   ·rw[hk]at hp;rcases List.mem_append.1 hp with hp | hp
    ·have:=hx.ll p (ABE hp);omega
    ·rcases List.mem_cons.1 hp with hp | hp
     ·subst hp;show 1<=c+1;omega
     ·have:=hx.ll p (AAi hp);omega
  ·have hk:Lq x q a d s o z=x.keys.set (Ey x a) ((x.keys.getD (Ey x a) (a,[])).1,HF (Mz x a) (PH (Mz x a).length (E5 (Mz x a) q s)) (q,a,d,(s:Int),o,z)):=by unfold Lq;rw[hh];rfl
   refine⟨fun p hp e he=>?_,?_,fun p hp=>?_⟩
   ·rw[hk]at hp;rcases ABB hp with hp | hp
    ·exact .inl (hx.key p hp e he)
    ·subst hp;rcases jj he with he | he
     ·exact .inl (u1 e he)
     ·rw[he];exact .inr rfl
   ·show(Lq x q a d s o z).length<=_;have:=hx.kl;rw[hk,Ly];omega
   ·rw[hk]at hp;rcases ABB hp with hp | hp
    ·have:=hx.ll p hp;omega
    ·subst hp;show(HF _ _ _).length<=_;rw[NP aj];omega
theorem mW {r:C2} (h:r.ok):I1 r.a=0:=by
 unfold C2.ok DR at h;simp only[DL,ABZ]at h;exact h.1.2
theorem dA {r:C2} (h:r.ok) {off:Nat} (hb:off+r.size<=8192):Mt r.q r.a ((r.k:Int)==2) off r.size:=by
 have hF:=JH h;have b1:=hF.b1;have a1:=hF.a1;have hsz:r.size=16+r.a.size+r.b.size:=rfl;refine⟨mW h,hF.q0,hF.q1,WQ _,by omega,?_,by omega,by omega⟩;rcases hF.hk with hk | ⟨hk,hb0⟩
 ·right;rw[hk];rfl
 ·left;omega
theorem fA {x:Cm} {s:Nat} (hs:s < x.AR.length) (l:Aw) (_K:List (As × Aw)) (y:Cm) (hy:y.AR=x.AR.set s l):C7 y s=l:=by
 unfold C7;rw[hy];exact Dp hs
theorem bT {s:Nat}:∀(rs:List C2) (x:Cm) (used:Int->Prop) (c off:Nat),lh x used c->c+rs.length < 70000->s < x.AR.length->(∀r∈rs,r.ok)->off+(B3 rs).length<=8192->(rs.map C2.q).Nodup->(∀r∈rs,¬used (r.q:Int))->xe (C7 x s) off->(C7 x s).length<=c->
 Zq x (D4 s off rs)/\(Nh x (D4 s off rs)).AR=x.AR.set s (C7 x s++D4 s off rs)/\lh (Nh x (D4 s off rs)) (fun t=>used t∨∃r∈rs,t=(r.q:Int)) (c+rs.length)
 | [],x,used,c,off,hx,_,hs,_,_,_,_,_,_=>by
  refine⟨trivial,?_,?_⟩
  ·show x.AR=x.AR.set s (C7 x s++[]);rw[eA,KU (Jc hs)]
  ·exact⟨fun p hp e he=> .inl (hx.key p hp e he),hx.kl,hx.ll⟩
 | r::rs,x,used,c,off,hx,hc,hs,hok,hoff,hnd,hun,hbe,hsl=>by
  have hB:B3 (r::rs)=r.bytes++B3 rs:=rfl;rw[hB,Fu,r.len]at hoff;rw[ZC]at hc;have hr:=hok r (bB ..);have hnd:=List.nodup_cons.1 (show(r.q::rs.map C2.q).Nodup from hnd);obtain⟨h1,h2,h3⟩:=sE hx (by omega) hs (dA hr (by omega)) (hun r (bB ..)) hbe hsl;have e:D4 s off (r::rs)=((r.q:Int),r.a,(r.k:Int)==2,(s:Int),(off:Int),(r.size:Int))::D4 s (off+r.size) rs:=rfl;generalize hen:((r.q:Int),r.a,(r.k:Int)==2,(s:Int),(off:Int),(r.size:Int))=en at h1 h2 h3 e;have hsl2:C7 (fC x en) s=C7 x s++[en]:=fA hs _ [] _ h2;have hlen:(fC x en).AR.length=x.AR.length:=by rw[h2,Ly]
  obtain⟨k1,k2,k3⟩:=bT rs (fC x en) (fun t=>used t∨t=(r.q:Int)) (c+1) (off+r.size) h3 (by omega) (by rw[hlen];exact hs) (fun y hy=>hok y (ZH _ hy)) (by omega) hnd.2 (fun y hy hu=>by
   rcases hu with hu | hu
   ·exact hun y (ZH _ hy) hu
   ·exact hnd.1 (List.mem_map.2 ⟨y,hy,by omega⟩)) (by
   rw[hsl2];refine⟨fun y hy=>?_⟩;rcases List.mem_append.1 hy with hy | hy
   ·obtain⟨q1,q2,q3⟩:=hbe.all y hy;exact⟨q1,q2,by omega⟩
   ·rw[I6]at hy;rw[hy,<-hen];have:=r.Xo;exact⟨WQ _,by show(1:Int)<=(r.size:Int);omega,by show(off:Int)+(r.size:Int)<=_;omega⟩) (by rw[hsl2,Fu];show _+1<=_;omega)
  rw[e];refine⟨⟨h1,k1⟩,?_,?_⟩
  ·show(Nh (fC x en) (D4 s (off+r.size) rs)).AR=_;rw[k2,h2,hsl2,ABF,Sa];rfl
  ·refine⟨fun p hp y hy=>?_,?_,fun p hp=>?_⟩
   ·rcases k3.key p hp y hy with(h | h) | ⟨r2,h4,h5⟩
    ·exact .inl h
    ·exact .inr ⟨r,bB ..,h⟩
    ·exact .inr ⟨r2,ZH _ h4,h5⟩
   ·have:=k3.kl;show(Nh (fC x en) (D4 s (off+r.size) rs)).keys.length<=_;rw[ZC];omega
   ·have:=k3.ll p hp;rw[ZC];omega
structure je (d:Ab) (rs:Nat->List C2):Prop where
 sl:d.AR=5
 dn:d.down=false
 len:d.BB.length=7
 pre:∀s:Nat,s < 5->∃n,n<=(B3 (rs s)).length/\(CV d (s:Nat)).b=(B3 (rs s)).take n
 sz:∀s:Nat,s < 5->(B3 (rs s)).length<=600
 ok:∀s:Nat,s < 5->∀r∈rs s,r.ok
 nd:∀s:Nat,s < 5->((rs s).map C2.q).Nodup
 DG:∀s s':Nat,s < 5->s' < 5->s≠s'->∀r∈rs s,∀r'∈rs s',r.q≠r'.q
 qk:∀s:Nat,s < 5->(rs s).length<=1000
theorem Fe {L:List AS} {i n:Nat} (h:L.length=n) (hi:i < n):Ba L (i:Nat)=false:=by
 unfold Ba;rw[GP (by omega),GP (by omega)];rfl
theorem Nt (d:Ab) (i:Int):Ed d i 0 (A8 d i)=(CV d i).b:=by
 unfold Ed Us A8;rw[HR];show List.take _ (List.drop 0 _)=_;rw[O9,cl]
theorem Rv {d:Ab} {i:Nat} (hd:d.down=false) (hb:Ba d.BB (i:Nat)=false):Kj d (i:Nat) 0 (A8 d (i:Nat))=true:=by
 unfold Kj;rw[hd,hb];unfold Ij A8;rw[GP (by omega),GP (by omega),GP (by omega),GP (by omega)];rfl
section
variable {d:Ab} {rs:Nat->List C2}
theorem jL (d:Ab) (i:Int):(A8 d i==0)=decide ((CV d i).b.length=0):=by
 unfold A8;cases h:decide ((CV d i).b.length=0)
 ·have:=of_decide_eq_false h;exact fH.2 (by omega)
 ·have:=fX h;rw[this];rfl
theorem lh.imp {x:Cm} {u u':Int->Prop} {c:Nat} (h:lh x u c) (hu:∀t,u t->u' t):lh x u' c:=⟨fun p hp e he=>hu _ (h.key p hp e he),h.kl,h.ll⟩
end
theorem zg {n:Nat} (h:n < 256):IntKind.wrap .u8 (n:Int)=(n:Int):=by simp[IntKind.wrap,IntKind.bits,IntKind.signed];omega
theorem zq (n:Nat):IntKind.wrap .u8 (n:Int)=((n % 256:Nat):Int):=by simp[IntKind.wrap,IntKind.bits,IntKind.signed]
theorem sJ {n:Nat} (h:n < 4294967296):IntKind.wrap .u32 (n:Int)=(n:Int):=by simp[IntKind.wrap,IntKind.bits,IntKind.signed];omega
theorem AAX {a b:Nat} (ha:a < 256) (hb:b < 256):x8 (a:Int) (b:Int)=((a ^^^ b:Nat):Int)/\a ^^^ b < 256:=by
 have h:a ^^^ b < 256:=Nat.xor_lt_two_pow (n:=8) ha hb;refine⟨?_,h⟩;unfold x8;have e:∀y:Nat,y < 256->BitVec.toNat (BitVec.ofInt (IntKind.bits .u8) (y:Int))=y:=fun y hy=>by
  show BitVec.toNat (BitVec.ofInt 8 (y:Int))=_;rw[jF,jS,ABj hy]
 rw[BitVec.toNat_xor,e a ha,e b hb];exact zg h
theorem vP {a b:Nat} (ha:a < 4294967296) (hb:b < 4294967296):pX (a:Int) (b:Int)=((a ^^^ b:Nat):Int)/\a ^^^ b < 4294967296:=by
 have h:a ^^^ b < 4294967296:=Nat.xor_lt_two_pow (n:=32) ha hb;refine⟨?_,h⟩;unfold pX;have e:∀y:Nat,y < 4294967296->BitVec.toNat (BitVec.ofInt (IntKind.bits .u32) (y:Int))=y:=fun y hy=>by
  show BitVec.toNat (BitVec.ofInt 32 (y:Int))=_;rw[jF,jS,ABj hy]
 rw[BitVec.toNat_xor,e a ha,e b hb];exact sJ h
structure zV (tb:Ad) (T:Nat->Nat):Prop where
 at_:∀i,i < 256->tb.getD (0+i) (EK.BL kW)=(T i:Nat)
 lt:∀i,i < 256->T i < 4294967296
 inj:∀i j,i < 256->j < 256->T i / 16777216=T j / 16777216->i=j
theorem Oc {tb:Ad} {T:Nat->Nat} (h:zV tb T) {x c:Nat} (hx:x < 4294967296) (hc:c < 256):OP tb (x:Int) (c:Int)=((T (x % 256 ^^^ c) ^^^ (x / 256):Nat):Int)/\T (x % 256 ^^^ c) ^^^ (x / 256) < 4294967296/\x % 256 ^^^ c < 256:=by
 obtain⟨h1,h2⟩:=AAX (a:=x % 256) (b:=c) (ABh _ (by decide)) hc;have hi:Zb (x:Int) (c:Int)=((x % 256 ^^^ c:Nat):Int):=by unfold Zb;rw[zq];exact h1
 have hd:Int.fdiv (x:Int) (2 ^ min 8 (IntKind.bits .u32))=((x / 256:Nat):Int):=by
  have e:((2:Int) ^ min 8 (IntKind.bits .u32))=((256:Nat):Int):=by decide
  rw[e,ABT _ (WQ _),<-Int.natCast_ediv]
 obtain⟨h3,h4⟩:=vP (a:=T (x % 256 ^^^ c)) (b:=x / 256) (h.lt _ h2) (by omega);refine⟨?_,h4,h2⟩;unfold OP;rw[hi,HR,h.at_ _ h2,hd,h3]
theorem zO {a b:Nat} (hb:b < 16777216):(a ^^^ b) / 16777216=a / 16777216:=by
 have e:∀n:Nat,n / 16777216=n >>> 24:=fun n=>by rw[Nat.shiftRight_eq_div_pow]
 have h0:b >>> 24=0:=by rw[<-e];omega
 rw[e,e,Nat.shiftRight_xor_distrib,h0,Nat.xor_zero]
theorem fh {a b c:Nat} (h:a ^^^ b=a ^^^ c):b=c:=by
 have:=congrArg (fun t=>a ^^^ t) h;simpa [<-Nat.xor_assoc] using this
theorem zD {tb:Ad} {T:Nat->Nat} (h:zV tb T) {x y c d:Nat} (hx:x < 4294967296) (hy:y < 4294967296) (hc:c < 256) (hd:d < 256) (e:OP tb (x:Int) (c:Int)=OP tb (y:Int) (d:Int)):x % 256 ^^^ c=y % 256 ^^^ d/\x / 256=y / 256:=by
 obtain⟨a1,a2,a3⟩:=Oc h hx hc;obtain⟨b1,b2,b3⟩:=Oc h hy hd;rw[a1,b1]at e;have e:T (x % 256 ^^^ c) ^^^ (x / 256)=T (y % 256 ^^^ d) ^^^ (y / 256):=by omega
 have et:T (x % 256 ^^^ c) / 16777216=T (y % 256 ^^^ d) / 16777216:=by
  rw[<-zO (a:=T (x % 256 ^^^ c)) (b:=x / 256) (by omega),e,zO (by omega)]
 have ei:=h.inj _ _ a3 b3 et;rw[ei]at e;exact⟨ei,fh e⟩
theorem ew {tb:Ad} {T:Nat->Nat} (h:zV tb T):∀(l:Ad) (x:Nat),(∀c∈l,∃n:Nat,c=(n:Int)/\n < 256)->x < 4294967296->∃y:Nat,l.foldl (OP tb) (x:Int)=(y:Int)/\y < 4294967296
 | [],x,_,hx=>⟨x,rfl,hx⟩
 | c::l,x,hl,hx=>by
  obtain⟨n,rfl,hn⟩:=hl c (bB ..);obtain⟨a1,a2,_⟩:=Oc h hx hn;rw[ABp,a1];exact ew h l _ (fun c hc=>hl c (ZH _ hc)) a2
theorem zN {tb:Ad} {T:Nat->Nat} (h:zV tb T):∀(l:Ad) (x y:Nat),(∀c∈l,∃n:Nat,c=(n:Int)/\n < 256)->x < 4294967296->y < 4294967296->x≠y->l.foldl (OP tb) (x:Int)≠l.foldl (OP tb) (y:Int)
 | [],x,y,_,_,_,hn=>fun e=>hn (by have e:(x:Int)=(y:Int):=e;omega)
 | c::l,x,y,hl,hx,hy,hn=>by
  obtain⟨n,rfl,hnc⟩:=hl c (bB ..);obtain⟨a1,a2,_⟩:=Oc h hx hnc;obtain⟨b1,b2,_⟩:=Oc h hy hnc;rw[ABp,ABp,a1,b1];refine zN h l _ _ (fun c hc=>hl c (ZH _ hc)) a2 b2 fun e=>hn ?_
  obtain⟨e1,e2⟩:=zD h hx hy hnc hnc (by rw[a1,b1,e]);have e3:x % 256=y % 256:=by
   have e1:n ^^^ (x % 256)=n ^^^ (y % 256):=by rw[jW n,jW n];exact e1
   exact fh e1
  omega
theorem zu {tb:Ad} {T:Nat->Nat} (h:zV tb T) {p s:Ad} {c d x:Nat} (hp:∀c∈p,∃n:Nat,c=(n:Int)/\n < 256) (hs:∀c∈s,∃n:Nat,c=(n:Int)/\n < 256) (hc:c < 256) (hd:d < 256) (hn:c≠d) (hx:x < 4294967296):
 Lj tb (x:Int) (p++(c:Int)::s)≠Lj tb (x:Int) (p++(d:Int)::s):=by
 unfold Lj;rw[iS,iS,ABp,ABp];obtain⟨y,e,hy⟩:=ew h p x hp hx;rw[e];obtain⟨a1,a2,_⟩:=Oc h hy hc;obtain⟨b1,b2,_⟩:=Oc h hy hd;rw[a1,b1];have hne:T (y % 256 ^^^ c) ^^^ (y / 256)≠T (y % 256 ^^^ d) ^^^ (y / 256):=fun e=>hn (fh (zD h hy hy hc hd (by rw[a1,b1,e])).1)
 have hf:=zN h s _ _ hs a2 b2 hne;obtain⟨u,eu,hu⟩:=ew h s _ hs a2;obtain⟨v,ev,hv⟩:=ew h s _ hs b2;rw[eu,ev]at hf ⊢;obtain⟨u1,_⟩:=vP (a:=u) (b:=4294967295) hu (by decide);obtain⟨v1,_⟩:=vP (a:=v) (b:=4294967295) hv (by decide);intro e;have e:pX (u:Int) ((4294967295:Nat):Int)=pX (v:Int) ((4294967295:Nat):Int):=e;rw[u1,v1]at e;have e:4294967295 ^^^ u=4294967295 ^^^ v:=by rw[jW _ u,jW _ v];omega
 exact hf (by rw[fh e])
def tbT (i:Nat):Nat:=uo / 2 ^ (32 * i) % 4294967296
def AAB:AW->Bool
 | []=>true
 | a::l=>(l.all fun b=> !(Nat.beq a b))&&AAB l
theorem zS:∀{l:AW},AAB l=true->∀(i j:Nat) (a:Nat),l[i]? = some a->l[j]? = some a->i=j
 | [],_,i,_,_,h,_=>by cases h
 | b::l,hn,i,j,a,hi,hj=>by
  unfold AAB at hn;rw[DL]at hn;have hb:∀(k:Nat),l[k]?≠some b:=fun k hk=>by
   have:=List.all_eq_true.1 hn.1 b (VE hk);rw[Va]at this;cases this
  match i,j,hi,hj with
  | 0,0,_,_=>rfl
  | 0,j+1,hi,hj=>cases hi;exact absurd hj (hb j)
  | i+1,0,hi,hj=>cases hj;exact absurd hi (hb i)
  | i+1,j+1,hi,hj=>rw[zS hn.2 i j a hi hj]
theorem AAC:OC=(List.range 256).map fun i=>((tbT i:Nat):Int):=by kernel_rfl
theorem AAV:AAB ((List.range 256).map fun i=>tbT i / 16777216)=true:=by kernel_rfl
theorem AAa:zV OC tbT:=by
 refine⟨fun i hi=>?_,fun i _=>ABh _ (by decide),fun i j hi hj e=>?_⟩
 ·rw[AAC,Hq,F5,LW,AA5 hi];rfl
 ·refine zS AAV i j (tbT i / 16777216) ?_ ?_
  ·rw[LW,AA5 hi];rfl
  ·rw[LW,AA5 hj,e];rfl
theorem zp {p s:Ad} {c d:Nat} (hp:∀c∈p,∃n:Nat,c=(n:Int)/\n < 256) (hs:∀c∈s,∃n:Nat,c=(n:Int)/\n < 256) (hc:c < 256) (hd:d < 256) (hn:c≠d):Er 0 (p++(c:Int)::s)≠Er 0 (p++(d:Int)::s):=by
 unfold Er;have e:pX 0 4294967295=((4294967295:Nat):Int):=by decide
 rw[e];exact zu AAa hp hs hc hd hn (by decide)
def numOf (B:Nat->Nat):Nat->Nat
 | 0=>0
 | w+1=>numOf B w+2 ^ (8 * w) * B w
theorem Yy {B:Nat->Nat}:∀(w:Nat),(∀t,t < w->B t < 256)->numOf B w < 2 ^ (8 * w)
 | 0,_=>Nat.zero_lt_one
 | w+1,h=>by
  have ih:=Yy w fun t ht=>h t (by omega)
  have hb:=h w (by omega);have e:(2:Nat) ^ (8 * (w+1))=2 ^ (8 * w) * 256:=by rw[show 8 * (w+1)=8 * w+8 from by omega,Nat.pow_add]
  unfold numOf;rw[e];have:=Nat.mul_le_mul_left (2 ^ (8 * w)) (show B w+1<=256 by omega);rw[Nat.mul_add,ABU]at this;omega
theorem mb {B C:Nat->Nat}:∀(w:Nat),(∀t,t < w->B t < 256)->(∀t,t < w->C t < 256)->numOf B w=numOf C w->∀t,t < w->B t=C t
 | 0,_,_,_,t,ht=>absurd ht (Nat.not_lt_zero _)
 | w+1,hB,hC,e,t,ht=>by
  have b:=Yy w fun t ht=>hB t (by omega)
  have c:=Yy w fun t ht=>hC t (by omega)
  unfold numOf at e;have hp:0 < 2 ^ (8 * w):=Nat.two_pow_pos _;have e1:=congrArg (· / 2 ^ (8 * w)) e;simp only[Nat.add_mul_div_left _ _ hp,Nat.div_eq_of_lt b,Nat.div_eq_of_lt c,Hq]at e1
  by_cases h:t=w
  ·rw[h];exact e1
  ·rw[e1]at e;exact mb w (fun t ht=>hB t (by omega)) (fun t ht=>hC t (by omega)) (by omega) t (by omega)
theorem Yk {g:Nat->Int} {B:Nat->Nat}:∀(w:Nat),w<=8->(∀t,t < w->g t=(B t:Nat)/\B t < 256)->JU g w=(numOf B w:Nat)
 | 0,_,_=>rfl
 | w+1,hw,h=>by
  unfold JU;rw[Yk w (by omega) (fun t ht=>h t (by omega)),(h w (by omega)).1,oo (by omega) (Yy w fun t ht=>(h t (by omega)).2) (h w (by omega)).2];rfl
theorem Tv {g g':Nat->Int}:∀(w:Nat),(∀t,t < w->g t=g' t)->JU g w=JU g' w
 | 0,_=>rfl
 | w+1,h=>by
  unfold JU;rw[Tv w (fun t ht=>h t (by omega)),h w (by omega)]
def vd (l:Ad):Prop:=∀x∈l,∃n:Nat,x=(n:Int)/\n < 256
theorem Pb {l:Ad} {p t:Nat} {x:Int} (h:l[p+t]? = some x):EC l p t=x:=by
 unfold EC;rw[F5,h];rfl
theorem X5 {l l0:Ad} {i p t:Nat} (hs:∀u,u≠i->l[u]? = l0[u]?) (h:p+t≠i):EC l p t=EC l0 p t:=by
 unfold EC;rw[F5,F5,hs _ h]
theorem AAS {l l0:Ad} {i j:Nat} (hs:∀u,u≠i->l[u]? = l0[u]?) (h:∀t,t < 4->j+t≠i):(BS l j).s=(BS l0 j).s:=by
 show IntKind.wrap .u32 (JU (EC l (j+0)) 4)=IntKind.wrap .u32 (JU (EC l0 (j+0)) 4);rw[Tv 4 fun t ht=>X5 hs (by have:=h t ht;omega)]
theorem AAA {l l0:Ad} {i j:Nat} (hs:∀u,u≠i->l[u]? = l0[u]?) (h:∀t,t < 3->j+5+t≠i):(BS l j).a=(BS l0 j).a/\(BS l j).b=(BS l0 j).b:=by
 constructor
 ·show IntKind.wrap .i64 (JU (EC l (j+5)) 1)=IntKind.wrap .i64 (JU (EC l0 (j+5)) 1);rw[Tv 1 fun t ht=>X5 hs (by have:=h t (by omega);omega)]
 ·show IntKind.wrap .i64 (JU (EC l (j+6)) 2)=IntKind.wrap .i64 (JU (EC l0 (j+6)) 2);rw[Tv 2 fun t ht=>X5 hs (by have:=h (t+1) (by omega);omega)]
theorem zY {l:Ad} {j n:Nat} (h:(Er 0 ((l.drop (j+4)).take (JT (BS l j) - 4))==(BS l j).s)=false):GO l j n=false:=by
 unfold GO;rw[h];simp
theorem AAG {l:Ad} {j n:Nat} (h:(BS l j).k < 1∨(BS l j).k=3):GO l j n=false:=by
 unfold GO;rcases h with h | h
 ·have:Ex (BS l j)=false:=by unfold Ex;rw[Fp h];rfl
  rw[this];simp
 ·rw[h];simp
theorem take_split {α:Type} {L:List α} {m i:Nat} {x:α} (hi:i < m) (h:L[i]? = some x):L.take m=L.take i++x::(L.drop (i+1)).take (m - i - 1):=by
 obtain⟨hl,e⟩:=List.getElem?_eq_some_iff.1 h;apply ABQ
 intro t;rw[Ul]
 by_cases h1:t < i
 ·rw[SB (by rw[IP];omega),Ul,HI h1,HI (by omega)]
 ·rw[WO (by rw[IP];omega),IP,bV (by omega)]
  by_cases h2:t=i
  ·subst h2;rw[HI hi,dD,h];rfl
  ·obtain⟨u,rfl⟩:∃u,t=i+1+u:=⟨t - i - 1,by omega⟩
   rw[show i+1+u - i=u+1 from by omega,bG,Ul,Vs]
   by_cases h3:i+1+u < m
   ·rw[HI h3,HI (by omega)]
   ·rw[E7 h3,E7 (by omega)]
theorem nK {l l0:Ad} {i k:Nat} (hs:∀u,u≠i->l[u]? = l0[u]?) (h:i < k):l.drop k=l0.drop k:=by
 apply ABQ
 intro t;rw[Vs,Vs,hs _ (by omega)]
theorem take_same {l l0:Ad} {i k m:Nat} (hs:∀u,u≠i->l[u]? = l0[u]?) (h:k+m<=i):(l.drop k).take m=(l0.drop k).take m:=by
 apply ABQ
 intro t;rw[Ul,Ul,Vs,Vs];split
 ·exact hs _ (by omega)
 ·rfl
theorem vd.sub {l l0:Ad} (h:vd l0) (hs:∀x∈l,x∈l0):vd l:=fun x hx=>h x (hs x hx)
theorem zv {r:C2} (h:r.ok) {l l0:Ad} {j n o c d:Nat} (hb:vd l0) (hp:Tf l0 j r.bytes) (ho:o < r.size) (h5:o < 5∨8<=o) (hs:∀u,u≠j+o->l[u]? = l0[u]?) (hc:l0[j+o]? = some (c:Int)) (hd:l[j+o]? = some (d:Int)) (hcb:c < 256) (hdb:d < 256) (hn:c≠d) (hk:o=4->d=0∨d=3):GO l j n=false:=by
 have hp':Tf l0 j (UD (EA r.k r.q r.a r.b) r.k r.a.size r.b.size r.q++(B1 r.a++B1 r.b)):=hp;have hh:=U1 h hp'.left;obtain⟨w1,w2,_⟩:=dH h hp (CC r.size);have hcrc:Er 0 ((l0.drop (j+4)).take (r.size - 4))=(BS l0 j).s:=by
  unfold GO at w1;simp only[DL,ABZ,w2]at w1;exact w1.2.2.2.2.1
 have h16:=r.Xo;have hby:∀t:Nat,t < r.size->∃b:Nat,l0[j+t]? = some (b:Int)/\b < 256:=fun t ht=>by
  have e:=hp t (by rw[r.len];exact ht);have hlt:t < r.bytes.length:=by rw[r.len];exact ht
  rw[FL hlt]at e;obtain⟨b,eb,hb2⟩:=hb _ (VE e);exact⟨b,by rw[e,eb],hb2⟩
 by_cases h4:o=4
 ·subst h4;refine AAG ?_;have e:(BS l j).k=(d:Int):=by
   show IntKind.wrap .i64 (JU (EC l (j+4)) 1)=_;rw[Yk (g:=EC l (j+4)) (B:=fun _=>d) 1 (by decide) fun t ht=>⟨Pb (match t,ht with | 0,_=>hd | t+1,h=>absurd h (by omega)),hdb⟩];have e0:numOf (fun _=>d) 1=d:=by unfold numOf numOf;omega
   rw[e0,wrap64 (by omega) (by omega)]
  rw[e];rcases hk rfl with h | h
  ·left;omega
  ·right;omega
 ·obtain⟨ea,eb⟩:=AAA (j:=j) hs (by omega);have hsz:JT (BS l j)=r.size:=by rw[<-w2];unfold JT;rw[ea,eb]
  refine zY (fH.2 ?_);rw[hsz];rcases OR o 4 with h3 | h3
  ·rw[nK hs (by omega),hcrc];intro e;have key:∀(L:Ad) (B:Nat->Nat),(∀t,t < 4->L[j+t]? = some (B t:Int)/\B t < 256)->(BS L j).s=(numOf B 4:Nat):=fun L B hB=>by
    show IntKind.wrap .u32 (JU (EC L (j+0)) 4)=_;rw[Yk (g:=EC L (j+0)) (B:=B) 4 (by decide) fun t ht=>⟨Pb (hB t ht).1,(hB t ht).2⟩];exact sJ (Yy 4 fun t ht=>(hB t ht).2)
   obtain⟨b0,p0,q0⟩:=hby 0 (by omega);obtain⟨b1,p1,q1⟩:=hby 1 (by omega);obtain⟨b2,p2,q2⟩:=hby 2 (by omega);obtain⟨b3,p3,q3⟩:=hby 3 (by omega);let B:Nat->Nat:=fun t=>match t with
    | 0=>b0
    | 1=>b1
    | 2=>b2
    | _=>b3
   have hB:∀t,t < 4->l0[j+t]? = some (B t:Int)/\B t < 256:=fun t ht=>match t,ht with
    | 0,_=>⟨p0,q0⟩
    | 1,_=>⟨p1,q1⟩
    | 2,_=>⟨p2,q2⟩
    | 3,_=>⟨p3,q3⟩
    | t+4,h=>absurd h (by omega)
   have hC:∀t,t < 4->l[j+t]? = some ((if t=o then d else B t:Nat):Int)/\(if t=o then d else B t) < 256:=fun t ht=>by
    by_cases e:t=o
    ·subst e;rw[HI rfl];exact⟨hd,hdb⟩
    ·rw[E7 e,hs _ (by omega)];exact hB t ht
   have k1:=key l0 B hB;have k2:=key l (fun t=>if t=o then d else B t) hC;rw[k1,k2]at e;have:=mb 4 (fun t ht=>(hB t ht).2) (fun t ht=>(hC t ht).2) (by omega) o h3;rw[HI rfl]at this;have hco:=(hB o h3).1;rw[hc]at hco;have:(c:Int)=(B o:Int):=by injection hco
   omega
  ·rw[AAS hs (by omega),<-hcrc];have hi:o - 4 < r.size - 4:=by omega
   have g0:(l0.drop (j+4))[o - 4]? = some (c:Int):=by rw[Vs,show j+4+(o - 4)=j+o from by omega];exact hc
   have g1:(l.drop (j+4))[o - 4]? = some (d:Int):=by rw[Vs,show j+4+(o - 4)=j+o from by omega];exact hd
   rw[take_split hi g0,take_split hi g1,take_same hs (by omega),AAx,AAx,nK hs (by omega)];refine fun e=>zp (fun x hx=>hb x (AAi (ABE hx))) (fun x hx=>hb x (AAi (ABE hx))) hcb hdb hn e.symm
theorem q7:(B3 []).length=0:=rfl
theorem rq {l:Ad} {s:Int} (f off:Nat) (hd:∀n,GO l off n=false):GS l 0 l.length s f off=[]:=by
 cases f with
 | zero=>rfl
 | succ f=>
  unfold GS;rw[Hq,hd];rfl
theorem zW {l:Ad} {s:Int} (rs:List C2):∀(f off:Nat),(∀r∈rs,r.ok)->Tf l off (B3 rs)->off+(B3 rs).length<=l.length->l.length - off<=f->(∀n,GO l (off+(B3 rs).length) n=false)->GS l 0 l.length s f off=D4 s off rs:=by
 induction rs with
 | nil=>
  intro f off _ _ _ _ hd;rw[q7,AAg]at hd;rw[rq f off hd];rfl
 | cons r rs ih=>
  intro f off hok hp h2 h3 hd;have hr:=hok r (bB ..);have h16:=r.Xo;have hB:B3 (r::rs)=r.bytes++B3 rs:=rfl;rw[hB,Fu,r.len]at h2 hd;rw[hB]at hp;cases f with
  | zero=>omega
  | succ f=>
   unfold GS;rw[Hq];obtain⟨c1,c2,c3,c4,c5,c6⟩:=dH hr hp.left (show r.size<=l.length - off by omega);have hp2:=hp.right;rw[r.len]at hp2;have ih:=ih f (off+r.size) (fun x hx=>hok x (ZH _ hx)) hp2 (by omega) (by omega) (by rw[XY];exact hd);rw[c1,Al,c2,ih];show TL l 0 s off::_=Ou s off r::_
   congr 1
   unfold TL Ou;rw[Hq,c3,c4,c5,c6];rfl
def QI (p:B2):Nat:=bif p.2.2.2.1 then 2 else 1
theorem Ob (p:B2):M1 p=(QI p:Nat):=by unfold M1 QI;cases p.2.2.2.1<;>rfl
theorem bO (m:Int):I1 (Fq m)=0/\(Fq m).size<=5/\1<=(Fq m).size:=by
 unfold Fq;split
 ·exact⟨by kernel_rfl,by decide,by decide⟩
 ·split
  ·exact⟨by kernel_rfl,by decide,by decide⟩
  ·split
   ·exact⟨by kernel_rfl,by decide,by decide⟩
   ·exact⟨by kernel_rfl,by decide,by decide⟩
theorem S7 {p:B2} (h:Ld p):(LO p).size<=39:=by
 unfold LO;cases p.2.2.2.1
 ·rw[Dg];obtain⟨r0,r1⟩:=MJ (m:=40) h.c0 (by decide);show(ZG p.2.2.1).data.size<=39;unfold ZG Fy;simp only[ABR,cw,IP,MQ,Xu];omega
 ·exact PM _
def LQ (i:Nat) (p:B2):C2:=⟨QI p,i+1,Fq (Int.tmod p.2.1 4),LO p⟩
theorem mg {i:Nat} {p:B2} (h:Ld p) (hi:i < 1000):(LQ i p).ok:=by
 show DR (QI p:Nat) ((i+1:Nat):Int) (Fq (Int.tmod p.2.1 4)) (LO p)=true;obtain⟨k1,k2,k3⟩:=bO (Int.tmod p.2.1 4);have hv:=S7 h;have e1:(((QI p:Nat):Int)==1||(((QI p:Nat):Int)==2&&Jf (LO p)))=true:=by
  unfold QI LO;cases p.2.2.2.1
  ·rfl
  ·unfold Jf;show(false||(true&&((ByteArray.toList { data:=#[] })==(ByteArray.toList { data:=#[] }))))=true;rw[AA2];rfl
 have e2:J6 (LO p) 512=0:=by
  unfold J6;rw[GP (by decide),GP (by decide),GP (by show ¬((LO p).size:Int) > 512;omega)];rfl
 unfold DR;rw[e1,k1,e2,GP (by omega),GP (by omega)];rfl
theorem cK {i:Nat} {p:B2} (h:Ld p):(LQ i p).size<=60:=by
 obtain⟨k1,k2,k3⟩:=bO (Int.tmod p.2.1 4);have hv:=S7 h;show 16+(Fq (Int.tmod p.2.1 4)).size+(LO p).size<=60;omega
structure FI (st:PF) (i:Nat) (rs:Nat->List C2) (us:Nat->Nat):Prop where
 sl:st.d.AR=5
 dn:st.d.down=false
 pl:st.d.BJ=none
 len:st.d.BB.length=7
 o0:0<=st.d.ops
 o1:st.d.ops<=2 * i
 im:∀s:Nat,s < 5->CV st.d (s:Nat)=⟨600,((B3 ((rs s).take (us s))).length:Nat),B3 (rs s)⟩
 wA:∀s:Nat,5<=s->s < 7->CV st.d (s:Nat)=⟨64,0,[]⟩
 L:∀s:Nat,s < 5->st.L s=D4 (s:Nat) 0 (rs s)
 u:∀s:Nat,s < 5->st.u s=(us s:Nat)/\us s<=(rs s).length
 sz:∀s:Nat,s < 5->(B3 (rs s)).length<=600
 ok:∀s:Nat,s < 5->∀r∈rs s,r.ok
 nd:∀s:Nat,s < 5->((rs s).map C2.q).Nodup
 DG:∀s s':Nat,s < 5->s' < 5->s≠s'->∀r∈rs s,∀r'∈rs s',r.q≠r'.q
 q:∀s:Nat,s < 5->∀r∈rs s,r.q<=i
 qk:∀s:Nat,s < 5->(rs s).length<=i
theorem LM {d:Ab} {g:AS->AS} {s:Nat} {P:Option BP} {S O:Int} {D:Bool} (hs:s < d.BB.length) (t:Nat):CV ⟨D6 g (s:Nat) d.BB,P,S,O,D⟩ (t:Nat)=if s=t then g (CV d (s:Nat))else CV d (t:Nat):=by
 unfold CV D6;simp only[HR];rw[F5,JP,HI hs];split
 ·rfl
 ·rw[<-F5]
theorem RR (s:Int) (r:C2):∀(rs:List C2) (off:Nat),D4 s off (rs++[r])=D4 s off rs++[Ou s (off+(B3 rs).length) r]
 | [],off=>rfl
 | r0::rs,off=>by
  have hB:B3 (r0::rs)=r0.bytes++B3 rs:=rfl;show Ou s off r0::D4 s (off+r0.size) (rs++[r])=Ou s off r0::(D4 s (off+r0.size) rs++[_]);rw[RR s r rs,hB,Fu,r0.len,XY]
theorem H6 (s:Int):∀(rs:List C2) (off:Nat),(D4 s off rs).length=rs.length
 | [],_=>rfl
 | r::rs,off=>by show(D4 s (off+r.size) rs).length+1=rs.length+1;rw[H6 s rs]
theorem OH (rs:List C2) (r:C2):B3 (rs++[r])=B3 rs++r.bytes:=by
 unfold B3;rw[ABr,AB2,List.flatMap_nil,eA]
theorem Mw {α:Type} (L:Nat->α) (s:Nat) (x:α):GR L s x s=x:=by unfold GR;rw[Va];rfl
theorem PX {α:Type} (L:Nat->α) {s t:Nat} (x:α) (h:t≠s):GR L s x t=L t:=by
 unfold GR;cases hb:Nat.beq t s
 ·rfl
 ·exact absurd (BG hb) h
theorem FI.next {st:PF} {i:Nat} {rs:Nat->List C2} {us:Nat->Nat} (h:FI st i rs us):FI st (i+1) rs us:=
 ⟨h.sl,h.dn,h.pl,h.len,h.o0,by have:=h.o1;omega,h.im,h.wA,h.L,h.u,h.sz,h.ok,h.nd,h.DG,fun s hs r hr=>by have:=h.q s hs r hr;omega,fun s hs=>by have:=h.qk s hs;omega⟩
theorem FI.add {st st':PF} {i s:Nat} {rs:Nat->List C2} {us us':Nat->Nat} (h:FI st i rs us) {r:C2} (hs:s < 5) (hr:r.ok) (hq:r.q=i+1) (hz:(B3 (rs s)).length+r.size<=600)
 (sl:st'.d.AR=5) (dn:st'.d.down=false) (pl:st'.d.BJ=none) (len:st'.d.BB.length=7) (o0:0<=st'.d.ops) (o1:st'.d.ops<=2 * (i+1:Nat))
 (hL:st'.L=GR st.L s (st.L s++[Ou (s:Nat) (B3 (rs s)).length r]))
 (him:CV st'.d (s:Nat)=⟨600,((B3 ((rs s++[r]).take (us' s))).length:Nat),B3 (rs s++[r])⟩) (hne:∀t:Nat,t≠s->CV st'.d (t:Nat)=CV st.d (t:Nat))
 (hu:st'.u s=(us' s:Nat)/\us' s<=(rs s++[r]).length) (hu2:∀t:Nat,t≠s->st'.u t=st.u t/\us' t=us t):FI st' (i+1) (GR rs s (rs s++[r])) us':=by
 have hA:∀t:Nat,t≠s->GR rs s (rs s++[r]) t=rs t:=fun t ht=>PX _ _ ht
 have hB:=Mw rs s (rs s++[r]);refine⟨sl,dn,pl,len,o0,o1,fun t ht=>?_,fun t h1 h2=>?_,fun t ht=>?_,fun t ht=>?_,fun t ht=>?_,fun t ht=>?_,fun t ht=>?_,fun t t' ht ht' hn=>?_,fun t ht=>?_,fun t ht=>?_⟩
 ·by_cases e:t=s
  ·subst e;rw[hB];exact him
  ·rw[hA t e,hne t e,h.im t ht,(hu2 t e).2]
 ·rw[hne t (by omega)];exact h.wA t h1 h2
 ·rw[hL]
  by_cases e:t=s
  ·subst e;rw[hB,Mw,RR,h.L t ht,Hq]
  ·rw[hA t e,PX _ _ e];exact h.L t ht
 ·by_cases e:t=s
  ·subst e;rw[hB];exact hu
  ·rw[hA t e,(hu2 t e).1,(hu2 t e).2];exact h.u t ht
 ·by_cases e:t=s
  ·subst e;rw[hB,OH,Fu,r.len];exact hz
  ·rw[hA t e];exact h.sz t ht
 ·by_cases e:t=s
  ·subst e;rw[hB];intro x hx;rcases List.mem_append.1 hx with hx | hx
   ·exact h.ok t ht x hx
   ·rw[I6]at hx;rw[hx];exact hr
  ·rw[hA t e];exact h.ok t ht
 ·by_cases e:t=s
  ·subst e;rw[hB,ABq];refine List.nodup_append.2 ⟨h.nd t ht,List.nodup_cons.2 ⟨YC,aG⟩,fun a ha b hb=>?_⟩;obtain⟨x,hx,rfl⟩:=List.mem_map.1 ha;have hb:b=r.q:=by simpa using hb
   have:=h.q t ht x hx;omega
  ·rw[hA t e];exact h.nd t ht
 ·have hm:∀t,t < 5->∀x∈GR rs s (rs s++[r]) t,x∈rs t∨(t=s/\x.q=i+1):=fun t ht x hx=>by
   by_cases e:t=s
   ·subst e;rw[hB]at hx;rcases List.mem_append.1 hx with hx | hx
    ·exact .inl hx
    ·rw[I6]at hx;rw[hx];exact .inr ⟨rfl,hq⟩
   ·rw[hA t e]at hx;exact .inl hx
  intro x hx y hy;rcases hm t ht x hx with h1 | ⟨h1,h1'⟩
  ·rcases hm t' ht' y hy with h2 | ⟨h2,h2'⟩
   ·exact h.DG t t' ht ht' hn x h1 y h2
   ·have:=h.q t ht x h1;omega
  ·rcases hm t' ht' y hy with h2 | ⟨h2,h2'⟩
   ·have:=h.q t' ht' y h2;omega
   ·omega
 ·by_cases e:t=s
  ·subst e;rw[hB];intro x hx;rcases List.mem_append.1 hx with hx | hx
   ·have:=h.q t ht x hx;omega
   ·rw[I6]at hx;rw[hx];omega
  ·rw[hA t e];intro x hx;have:=h.q t ht x hx;omega
 ·by_cases e:t=s
  ·subst e;rw[hB,Fu];have:=h.qk t ht;show _+1<=_;omega
  ·rw[hA t e];have:=h.qk t ht;omega
theorem Te {d:Ab} {s:Nat} {l:Ad} (hd:d.down=false) (hp:d.BJ=none) (hl:d.BB.length=7) (hs:s < 7) (hr:(l.length:Int)<=Gw d (s:Nat)):DX d (s:Nat) l=(0,⟨D6 (fun m=>FP m l) (s:Nat) d.BB,none,d.AR,J3 d.ops,false⟩):=by
 rw[NX hd (Fe hl hs) (by omega)];unfold MZ;rw[hp,hd]
theorem bX {d:Ab} {s:Nat} {l:Ad} (hd:d.down=false) (hl:d.BB.length=7) (hs:s < 7) (hr:¬(l.length:Int)<=Gw d (s:Nat)):DX d (s:Nat) l=(4,d):=MD hd (Fe hl hs) (by omega)
theorem WN {d:Ab} {s:Nat} (hd:d.down=false) (hp:d.BJ=none) (hl:d.BB.length=7) (hs:s < 7):De d (s:Nat)=(0,⟨D6 Cn (s:Nat) d.BB,none,d.AR,J3 d.ops,false⟩):=by
 unfold De;rw[NK hd (Fe hl hs)];unfold MZ;rw[hp,hd]
theorem P1 {o:Int} (h0:0<=o) (h1:o<=1000000):J3 o=o+1:=wrap64 (by omega) (by omega)
theorem nS {st:PF} {i:Nat} {rs:Nat->List C2} {us:Nat->Nat} (h:FI st i rs us) (hi:i < 1000) {p:B2} (hp:Ld p):VB st i p/\∃rs' us',FI (QP st i p) (i+1) rs' us':=by
 have hs:=bD hp;have hsz:=cK (i:=i) hp;have hrok:=mg hp hi;have hb:(E3 (M1 p) ((i+1:Nat):Int) (Fq (Int.tmod p.2.1 4)) (LO p))=(LQ i p).bytes:=by rw[Ob];rfl
 have hlen:(LQ i p).bytes.length=(LQ i p).size:=(LQ i p).len;have him:=h.im (DZ p) hs;have hdl:A8 st.d ((DZ p:Nat):Int)=((B3 (rs (DZ p))).length:Nat):=by unfold A8;rw[him]
 have hroom:Gw st.d ((DZ p:Nat):Int)=600 - ((B3 (rs (DZ p))).length:Nat):=by
  have e:Gw st.d ((DZ p:Nat):Int)=(CV st.d ((DZ p:Nat):Int)).size - (CV st.d ((DZ p:Nat):Int)).b.length:=rfl;rw[e,him]
 have hszs:=h.sz (DZ p) hs;have o0:=h.o0;have o1:=h.o1;have hcnt:=h.qk (DZ p) hs;have hLl:(st.L (DZ p)).length=(rs (DZ p)).length:=by rw[h.L _ hs,H6]
 have hrec:DR (M1 p) ((i+1:Nat):Int) (Fq (Int.tmod p.2.1 4)) (LO p)=true:=by rw[Ob];exact hrok
 have hrent:L6 (M1 p) ((i+1:Nat):Int) (Fq (Int.tmod p.2.1 4)) (LO p) ((DZ p:Nat):Int) (A8 st.d ((DZ p:Nat):Int))=true:=by
  unfold L6;rw[hrec,hdl,GP (by omega),GP (by omega),GP (by omega),GP (by omega)];rfl
 have hbad:=Fe h.len (show DZ p < 7 by omega);have ON:((((i+1:Nat):Int)),Fq (Int.tmod p.2.1 4),M1 p==2,((DZ p:Nat):Int),A8 st.d ((DZ p:Nat):Int),((Bu (Fq (Int.tmod p.2.1 4)) (LO p):Nat):Int))=Ou ((DZ p:Nat):Int) (B3 (rs (DZ p))).length (LQ i p):=by
  rw[hdl,Ob];rfl
 by_cases hr:(((LQ i p).bytes.length:Nat):Int)<=Gw st.d ((DZ p:Nat):Int)
 ·have hz:(B3 (rs (DZ p))).length+(LQ i p).size<=600:=by rw[hroom,hlen]at hr;omega
  have hap:=Te h.dn h.pl h.len (show DZ p < 7 by omega) hr;have hw:=P1 o0 (by omega);have hdl2:(D6 (fun m=>FP m (LQ i p).bytes) ((DZ p:Nat):Int) st.d.BB).length=7:=by rw[Gl];exact h.len
  have hsy:=WN (d:=⟨D6 (fun m=>FP m (LQ i p).bytes) ((DZ p:Nat):Int) st.d.BB,none,st.d.AR,J3 st.d.ops,false⟩) rfl rfl hdl2 (show DZ p < 7 by omega);refine⟨⟨hp,hrec,h.dn,hbad,hrent,fun _ _=>by rw[hb,hap,hsy],by omega⟩,?_⟩;unfold QP EF;rw[hb,hap];show ∃rs' us',FI (bif p.2.2.2.2 then _ else _) (i+1) rs' us'
  have hget:∀t:Nat,CV ⟨D6 (fun m=>FP m (LQ i p).bytes) ((DZ p:Nat):Int) st.d.BB,none,st.d.AR,J3 st.d.ops,false⟩ (t:Nat)=if DZ p=t then FP (CV st.d ((DZ p:Nat):Int)) (LQ i p).bytes else CV st.d (t:Nat):=fun t=>LM (by rw[h.len];omega) t
  cases hf:p.2.2.2.2
  ·rw[Dg];refine⟨_,us,h.add hs hrok rfl hz h.sl rfl rfl hdl2 (by show 0<=J3 _;omega) (by show J3 _<=_;omega) (by rw[<-ON]) ?_ (fun t ht=>?_) ?_ fun t _=>⟨rfl,rfl⟩⟩
   ·rw[hget,HI rfl,him,OH];have hu:=(h.u _ hs).2;rw[TS hu];rfl
   ·rw[hget,E7 (ZK ht)]
   ·obtain⟨u1,u2⟩:=h.u _ hs;exact⟨u1,by rw[Fu];omega⟩
  ·rw[Al];have hs2:DZ p < (D6 (fun m=>FP m (LQ i p).bytes) ((DZ p:Nat):Int) st.d.BB).length:=by rw[hdl2];omega
   have hw2:J3 (J3 st.d.ops)=st.d.ops+2:=by rw[hw,P1 (by omega) (by omega)];omega
   refine⟨_,GR us (DZ p) ((rs (DZ p)).length+1),h.add hs hrok rfl hz ?_ ?_ ?_ ?_ ?_ ?_ (by rw[<-ON]) ?_ (fun t ht=>?_) ?_ fun t ht=>⟨PX _ _ ht,PX _ _ ht⟩⟩
   ·show(De _ _).2.AR=_;rw[hsy];exact h.sl
   ·show(De _ _).2.down=_;rw[hsy]
   ·show(De _ _).2.BJ=_;rw[hsy]
   ·show(De _ _).2.BB.length=_;rw[hsy];show(D6 _ _ _).length=7;rw[Gl];exact hdl2
   ·show 0<=(De _ _).2.ops;rw[hsy];show 0<=J3 (J3 _);omega
   ·show(De _ _).2.ops<=_;rw[hsy];show J3 (J3 _)<=_;omega
   ·show CV (De _ _).2 _=_;rw[hsy,Mw];show CV ⟨D6 Cn _ _,_,_,_,_⟩ _=_;have ht:(rs (DZ p)++[LQ i p]).take ((rs (DZ p)).length+1)=rs (DZ p)++[LQ i p]:=HM (by rw[Fu];exact CC _);rw[LM hs2,HI rfl,hget,HI rfl,him,ht,OH];rfl
   ·show CV (De _ _).2 _=_;rw[hsy];show CV ⟨D6 Cn _ _,_,_,_,_⟩ _=_;rw[LM hs2,E7 (ZK ht),hget,E7 (ZK ht)]
   ·rw[Mw];refine⟨?_,by rw[Fu];exact CC _⟩;show GR st.u (DZ p) _ (DZ p)=_;rw[Mw,Fu,hLl];rfl
 ·have hap:=bX h.dn h.len (show DZ p < 7 by omega) hr;refine⟨⟨hp,hrec,h.dn,hbad,hrent,fun e=>(by rw[hb,hap]at e;cases e),by omega⟩,rs,us,?_⟩;unfold QP EF;rw[hb,hap];exact h.next
theorem ji {l:List B2} (hp:∀i,Ld (PJ l i)):∀(n i:Nat) (st:PF) (rs:Nat->List C2) (us:Nat->Nat),i+n<=1000->FI st i rs us->WI l n i st/\∃rs' us',FI (Eo l n i st) (i+n) rs' us'
 | 0,i,st,rs,us,_,h=>⟨trivial,rs,us,h⟩
 | n+1,i,st,rs,us,hn,h=>by
  obtain⟨h1,rs1,us1,h2⟩:=nS h (by omega) (hp i);obtain⟨h3,rs2,us2,h4⟩:=ji hp n (i+1) _ rs1 us1 (by omega) h2;refine⟨⟨h1,h3⟩,rs2,us2,?_⟩;rw[show i+(n+1)=i+1+n from by omega];exact h4
theorem yG:FI Oo 0 (fun _=>[]) fun _=>0:=by
 refine⟨rfl,rfl,rfl,rfl,AAv _,AAv _,fun s hs=>?_,fun s h1 h2=>?_,fun s _=>rfl,fun s _=>⟨rfl,CC _⟩,fun s _=>PM _,fun s _ r hr=>(by cases hr),fun s _=>aG,fun s s' _ _ _ r hr=>(by cases hr),fun s _ r hr=>(by cases hr),fun s _=>PM _⟩
 ·match s,hs with
  | 0,_=>rfl
  | 1,_=>rfl
  | 2,_=>rfl
  | 3,_=>rfl
  | 4,_=>rfl
  | s+5,h=>exact absurd h (by omega)
 ·match s,h1,h2 with
  | 5,_,_=>rfl
  | 6,_,_=>rfl
  | 0,h,_=>exact absurd h (by omega)
  | 1,h,_=>exact absurd h (by omega)
  | 2,h,_=>exact absurd h (by omega)
  | 3,h,_=>exact absurd h (by omega)
  | 4,h,_=>exact absurd h (by omega)
  | s+7,_,h=>exact absurd h (by omega)
structure AAN (d:Ab) (fs:Nat->List C2):Prop where
 sl:d.AR=5
 dn:d.down=false
 len:d.BB.length=7
 b:∀s:Nat,s < 5->(CV d (s:Nat)).b.length<=700
 es:∀s:Nat,s < 5->Gp d (s:Nat)=D4 (s:Nat) 0 (fs s)
 sz:∀s:Nat,s < 5->(B3 (fs s)).length<=600
 ok:∀s:Nat,s < 5->∀r∈fs s,r.ok
 nd:∀s:Nat,s < 5->((fs s).map C2.q).Nodup
 DG:∀s s':Nat,s < 5->s' < 5->s≠s'->∀r∈fs s,∀r'∈fs s',r.q≠r'.q
 qk:∀s:Nat,s < 5->(fs s).length<=1000
section
variable {d:Ab} {fs:Nat->List C2}
theorem zB (h:AAN d fs):∀(k i:Nat) (x:Cm) (c:Nat),k+i=5->lh x (fun t=>∃s,s < i/\∃r∈fs s,t=(r.q:Int)) c->c<=1000 * i->x.AR.length=5->(∀s,i<=s->s < 5->C7 x s=[])->
 Zz d k i x/\(Mh d k i x).AR.length=5/\(∀s,s < i->C7 (Mh d k i x) s=C7 x s)/\∀s,i<=s->s < 5->C7 (Mh d k i x) s=D4 (s:Nat) 0 (fs s)
 | 0,i,x,c,hk,_,_,hl,_=>⟨trivial,hl,fun _ _=>rfl,fun s h1 h2=>absurd h1 (by omega)⟩
 | k+1,i,x,c,hk,hx,hc,hl,he=>by
  have hi:i < 5:=by omega
  have hcn:=h.qk i hi;have hemp:=he i (CC _) hi;have hsz:=h.sz i hi;obtain⟨a1,a2,a3⟩:=bT (s:=i) (fs i) x _ c 0 hx (by omega) (by omega) (h.ok i hi) (by omega) (h.nd i hi) (fun r hr hu=>by
   obtain⟨s,hs,r',hr',e⟩:=hu;exact h.DG i s hi (by omega) (by omega) r hr r' hr' (by omega)) (by rw[hemp];exact⟨fun e he=>(by cases he)⟩) (by rw[hemp];exact PM _)
  rw[hemp,Yz]at a2;have hse:=h.es i hi;have hl2:(Nh x (Gp d (i:Nat))).AR.length=5:=by rw[hse,a2,Ly];exact hl
  have hne:∀s,s≠i->C7 (Nh x (Gp d (i:Nat))) s=C7 x s:=fun s hs=>by
   unfold C7;rw[hse,a2,F5,F5,JP,E7 (ZK hs)]
  obtain⟨b1,b2,b3,b4⟩:=zB h k (i+1) (Nh x (Gp d (i:Nat))) (c+(fs i).length) (by omega) (by
   rw[hse];refine a3.imp fun t ht=>?_
   rcases ht with⟨s,hs,r,hr,e⟩ | ⟨r,hr,e⟩
   ·exact⟨s,by omega,r,hr,e⟩
   ·exact⟨i,by omega,r,hr,e⟩) (by omega) hl2 (fun s h1 h2=>by rw[hne s (by omega)];exact he s (by omega) h2)
  have hbad:=Fe h.len (show i < 7 by omega);refine⟨⟨⟨h.dn,hbad,fun _=>⟨Rv h.dn hbad,?_⟩⟩,by rw[hse];exact a1,b1⟩,b2,fun s hs=>?_,fun s h1 h2=>?_⟩
  ·rw[Nt];have:=h.b i hi;exact⟨by omega,by omega,by omega,by omega⟩
  ·rw[<-hne s (by omega)];exact b3 s (by omega)
  ·by_cases e:s=i
   ·subst e;show C7 (Mh d k (s+1) _) s=_;rw[b3 s (by omega)];unfold C7;rw[hse,a2];exact Dp (by omega)
   ·exact b4 s (by omega) h2
theorem zr (h:AAN d fs):N9 d/\(EG d).AR.length=5/\∀s,s < 5->C7 (EG d) s=D4 (s:Nat) 0 (fs s):=by
 have h5:d.AR.toNat=5:=by rw[h.sl];rfl
 have h0:∀s,0<=s->s < 5->C7 (aN 5) s=[]:=fun s _ hs=>by
  unfold C7 aN;rw[F5,AA4];split<;>rfl
 obtain⟨b1,b2,_,b4⟩:=zB h 5 0 (aN 5) 0 rfl ⟨fun p hp=>(by cases hp),CC _,fun p hp=>(by cases hp)⟩ (by omega) (by unfold aN;simp) h0;refine⟨⟨h.dn,by rw[h.sl];decide,by rw[h.sl];decide,by rw[h5];exact b1⟩,?_,fun s hs=>?_⟩
 ·unfold EG;rw[h5];exact b2
 ·unfold EG;rw[h5];exact b4 s (PM _) hs
end
def bR (i:Int) (e:NQ):Int:=bif decide (5<=i - e.2.2.2.2.1)&&decide (i - e.2.2.2.2.1<=7)then e.2.2.2.2.1+8 else i
def z7 (es:Aw) (i:Int):Int:=es.foldl bR i
def dw (i:Int) (n:Int) (e:NQ):Int:=bif decide (e.2.2.2.2.1+e.2.2.2.2.2<=i)then n+1 else n
def AAY (i:Int) (es:Aw):Int:=es.foldl (dw i) 0
theorem zJ {s:Int}:∀(rs:List C2) (off:Nat) (i n:Int),((off+(B3 rs).length:Nat):Int)<=i->(D4 s off rs).foldl bR i=i/\(D4 s off rs).foldl (dw i) n=n+rs.length
 | [],off,i,n,_=>⟨rfl,(Int.add_zero n).symm⟩
 | r::rs,off,i,n,h=>by
  have hB:B3 (r::rs)=r.bytes++B3 rs:=rfl;rw[hB,Fu,r.len]at h;have h16:=r.Xo;have e1:bR i (Ou s off r)=i:=by
   unfold bR Ou;rw[GP (show ¬i - (off:Int)<=7 by omega),jP];rfl
  have e2:dw i n (Ou s off r)=n+1:=by
   unfold dw Ou;rw[Fp (show(off:Int)+(r.size:Int)<=i by omega)];rfl
  obtain⟨a,b⟩:=zJ (s:=s) rs (off+r.size) i (n+1) (by omega);refine⟨?_,?_⟩
  ·show(D4 s (off+r.size) rs).foldl bR (bR i (Ou s off r))=i;rw[e1];exact a
  ·show(D4 s (off+r.size) rs).foldl (dw i) (dw i n (Ou s off r))=_;rw[e2,b,ZC];omega
theorem zL {s:Int}:∀(rs:List C2) (off:Nat) (i n:Int),i < (off:Int)->(D4 s off rs).foldl bR i=i/\(D4 s off rs).foldl (dw i) n=n
 | [],off,i,n,_=>⟨rfl,rfl⟩
 | r::rs,off,i,n,h=>by
  have h16:=r.Xo;have e1:bR i (Ou s off r)=i:=by
   unfold bR Ou;rw[GP (show ¬5<=i - (off:Int) by omega)];rfl
  have e2:dw i n (Ou s off r)=n:=by
   unfold dw Ou;rw[GP (show ¬(off:Int)+(r.size:Int)<=i by omega)];rfl
  obtain⟨a,b⟩:=zL (s:=s) rs (off+r.size) i n (by omega);refine⟨?_,?_⟩
  ·show(D4 s (off+r.size) rs).foldl bR (bR i (Ou s off r))=i;rw[e1];exact a
  ·show(D4 s (off+r.size) rs).foldl (dw i) (dw i n (Ou s off r))=_;rw[e2];exact b
theorem Sw (s:Int):∀(a b:List C2) (off:Nat),D4 s off (a++b)=D4 s off a++D4 s (off+(B3 a).length) b
 | [],b,off=>rfl
 | r::a,b,off=>by
  have hB:B3 (r::a)=r.bytes++B3 a:=rfl;show Ou s off r::D4 s (off+r.size) (a++b)=Ou s off r::(D4 s (off+r.size) a++_);rw[Sw s a b,hB,Fu,r.len,XY]
theorem zc:∀(rs:List C2) (i:Nat),i < (B3 rs).length->∃pre r post,rs=pre++r::post/\(B3 pre).length<=i/\i < (B3 pre).length+r.size
 | [],i,h=>absurd h (Nat.not_lt_zero _)
 | r::rs,i,h=>by
  have hB:B3 (r::rs)=r.bytes++B3 rs:=rfl;rw[hB,Fu,r.len]at h
  by_cases hi:i < r.size
  ·exact⟨[],r,rs,rfl,PM _,by rw[q7,Hq];exact hi⟩
  ·obtain⟨pre,r',post,e,h1,h2⟩:=zc rs (i - r.size) (by omega);have hB2:B3 (r::pre)=r.bytes++B3 pre:=rfl;refine⟨r::pre,r',post,by rw[e];rfl,?_,?_⟩<;>rw[hB2,Fu,r.len]<;>omega
theorem zy (s:Int) {rs:List C2} {i:Nat} (hi:i < (B3 rs).length):∃pre r post o,rs=pre++r::post/\o < r.size/\(o < 5∨8<=o)/\z7 (D4 s 0 rs) i=(((B3 pre).length+o:Nat):Int)/\AAY (((B3 pre).length+o:Nat):Int) (D4 s 0 rs)=pre.length:=by
 obtain⟨pre,r,post,e,h1,h2⟩:=zc rs i hi;have h16:=r.Xo;obtain⟨o,ho,h5,hm⟩:∃o,o < r.size/\(o < 5∨8<=o)/\bR i (Ou s (B3 pre).length r)=(((B3 pre).length+o:Nat):Int):=by
  unfold bR Ou
  by_cases h:5<=i - (B3 pre).length/\i - (B3 pre).length<=7
  ·refine⟨8,by omega,.inr (CC _),?_⟩;rw[Fp (show(5:Int)<=(i:Int) - ((B3 pre).length:Int) by omega),Fp (show(i:Int) - ((B3 pre).length:Int)<=7 by omega)];rfl
  ·refine⟨i - (B3 pre).length,by omega,by omega,?_⟩;have:(decide ((5:Int)<=(i:Int) - ((B3 pre).length:Int))&&decide ((i:Int) - ((B3 pre).length:Int)<=7))=false:=by
    rcases OR (i - (B3 pre).length) 5 with h3 | h3
    ·rw[GP (by omega)];rfl
    ·rw[GP (show ¬(i:Int) - ((B3 pre).length:Int)<=7 by omega),jP]
   show(bif decide ((5:Int)<=(i:Int) - ((B3 pre).length:Int))&&decide ((i:Int) - ((B3 pre).length:Int)<=7)then _ else(i:Int))=_;rw[this,Dg];omega
 refine⟨pre,r,post,o,e,ho,h5,?_,?_⟩
 ·unfold z7;rw[e,Sw,iS,Hq,(zJ pre 0 i 0 (by omega)).1];show(D4 s ((B3 pre).length+r.size) post).foldl bR (bR i (Ou s (B3 pre).length r))=_;rw[hm];exact(zL post _ _ 0 (by omega)).1
 ·unfold AAY;rw[e,Sw,iS,Hq,(zJ pre 0 _ 0 (by omega)).2];show(D4 s ((B3 pre).length+r.size) post).foldl (dw _) (dw _ _ (Ou s (B3 pre).length r))=_;have e2:dw (((B3 pre).length+o:Nat):Int) (0+(pre.length:Int)) (Ou s (B3 pre).length r)=pre.length:=by
   unfold dw Ou;rw[GP (show ¬((B3 pre).length:Int)+(r.size:Int)<=(((B3 pre).length+o:Nat):Int) by omega),Int.zero_add];rfl
  rw[e2];exact(zL post _ _ _ (by omega)).2
theorem Y5 (q:Int) (w:Nat):vd (IM q w):=fun x hx=>by
 unfold IM at hx;obtain⟨i,_,rfl⟩:=List.mem_map.1 hx;obtain⟨a,b⟩:=iH (Int.fdiv q (2 ^ min (8 * i) (IntKind.bits .u64)));exact⟨(IntKind.wrap .u8 (Int.fdiv q (2 ^ min (8 * i) (IntKind.bits .u64)))).toNat,by omega,by omega⟩
theorem vd.app {a b:Ad} (ha:vd a) (hb:vd b):vd (a++b):=fun x hx=>by
 rcases List.mem_append.1 hx with h | h
 ·exact ha x h
 ·exact hb x h
theorem zQ (a:As):vd (B1 a):=fun x hx=>by
 unfold B1 at hx;obtain⟨b,_,rfl⟩:=List.mem_map.1 hx;exact⟨b.toNat,rfl,b.toNat_lt⟩
theorem Zn:∀rs:List C2,vd (B3 rs)
 | []=>fun x hx=>(by cases hx)
 | r::rs=>vd.app (show vd (E3 r.k r.q r.a r.b)from((((Y5 _ _).app (Y5 _ _)).app (Y5 _ _)).app (Y5 _ _)).app (Y5 _ _) |>.app ((zQ _).app (zQ _))) (Zn rs)
theorem Zk (a b:List C2):B3 (a++b)=B3 a++B3 b:=by unfold B3;rw[ABr]
theorem AAE (a b c:Ad):Tf (a++(b++c)) a.length b:=fun t ht=>by
 rw[WO (Nat.le_add_right _ _),ABJ,SB ht]
theorem zX {s:Int} {rs pre post:List C2} {r:C2} {o c d f:Nat} {tl:Ad} (e:rs=pre++r::post) (hok:∀r∈rs,r.ok) (ho:o < r.size) (h5:o < 5∨8<=o) (ht:vd tl)
 (hc:(B3 rs)[(B3 pre).length+o]? = some (c:Int)) (hd:d < 256) (hn:c≠d) (h1:c=1->d=0) (h2:c=2->d=3) (hf:(B3 rs).length+tl.length<=f):
 GS ((B3 rs).set ((B3 pre).length+o) (d:Int)++tl) 0 ((B3 rs).set ((B3 pre).length+o) (d:Int)++tl).length s f 0=D4 s 0 pre:=by
 have hB:B3 rs=B3 pre++(r.bytes++B3 post):=by rw[e,Zk];rfl
 have hlt:(B3 pre).length+o < (B3 rs).length:=by rw[hB,Fu,Fu,r.len];omega
 have hb0:vd (B3 rs++tl):=(Zn rs).app ht;have hp0:Tf (B3 rs++tl) (B3 pre).length r.bytes:=by
  rw[hB,Sa,Sa];exact AAE _ _ _
 have hs:∀u,u≠(B3 pre).length+o->((B3 rs).set ((B3 pre).length+o) (d:Int)++tl)[u]? = (B3 rs++tl)[u]?:=fun u hu=>by
  rw[ia,ia,Ly];split
  ·rw[JP,E7 (ZK hu)]
  ·rfl
 have hc0:(B3 rs++tl)[(B3 pre).length+o]? = some (c:Int):=by rw[SB hlt];exact hc
 have hd0:((B3 rs).set ((B3 pre).length+o) (d:Int)++tl)[(B3 pre).length+o]? = some (d:Int):=by
  rw[SB (by rw[Ly];exact hlt),JP,HI rfl,HI hlt]
 have hr:r.ok:=hok r (by rw[e];exact jk _ (bB ..));have hc256:c < 256:=by
  obtain⟨b,eb,hb⟩:=hb0 _ (VE hc0);omega
 have hk:o=4->d=0∨d=3:=fun h4=>by
  subst h4;obtain⟨_,_,w3,_⟩:=dH hr hp0 (CC r.size);have e3:(BS (B3 rs++tl) (B3 pre).length).k=(c:Int):=by
   show IntKind.wrap .i64 (JU (EC (B3 rs++tl) ((B3 pre).length+4)) 1)=_;rw[Yk (g:=EC (B3 rs++tl) ((B3 pre).length+4)) (B:=fun _=>c) 1 (by decide) fun t ht=>⟨Pb (match t,ht with | 0,_=>hc0 | t+1,h=>absurd h (by omega)),hc256⟩];have e0:numOf (fun _=>c) 1=c:=by unfold numOf numOf;omega
   rw[e0,wrap64 (by omega) (by omega)]
  have hk:=(JH hr).hk;rcases hk with hk | ⟨hk,_⟩
  ·exact .inl (h1 (by omega))
  ·exact .inr (h2 (by omega))
 have hflip:∀n,GO ((B3 rs).set ((B3 pre).length+o) (d:Int)++tl) (B3 pre).length n=false:=fun n=>zv hr hb0 hp0 ho h5 hs hc0 hd0 hc256 hd hn hk
 have hlen:((B3 rs).set ((B3 pre).length+o) (d:Int)++tl).length=(B3 rs).length+tl.length:=by rw[Fu,Ly]
 refine zW pre f 0 (fun x hx=>hok x (by rw[e];exact ib _ hx)) ?_ (by rw[hlen];omega) (by rw[hlen];omega) (fun n=>by rw[Hq];exact hflip n);intro t ht;rw[Hq,hs t (by omega),SB (by omega),hB,SB ht]
theorem zI {s:Int} {tl:Ad} {f:Nat} (h:tl[4]? = some 255):GS tl 0 tl.length s f 0=[]:=by
 refine rq f 0 fun n=>?_
 have e3:(BS tl 0).k=255:=by
  show IntKind.wrap .i64 (JU (EC tl (0+4)) 1)=_;rw[Yk (g:=EC tl (0+4)) (B:=fun _=>255) 1 (by decide) fun t ht=>⟨Pb (match t,ht with | 0,_=>h | t+1,h=>absurd h (by omega)),by decide⟩];rfl
 have e4:Ex (BS tl 0)=false:=by
  unfold Ex;rw[e3];rfl
 unfold GO;rw[e4];cases decide (Int.ofNat n < 16)<;>rfl
structure TeD (d0 d:Ab) (k:Nat) (b:Ad):Prop where
 sl:d.AR=5
 dn:d.down=false
 pl:d.BJ=none
 len:d.BB.length=7
 z:CV d (k:Nat)=⟨600,0,b⟩
 ne:∀t:Nat,t≠k->CV d (t:Nat)=CV d0 (t:Nat)
theorem zf {st:PF} {i:Nat} {rs:Nat->List C2} {us:Nat->Nat} (h:FI st i rs us) {k:Nat} (hk:k < 5):(Ma st.d (k:Nat) Jj BP.done).1=0/\TeD st.d (Ma st.d (k:Nat) Jj BP.done).2 k []:=by
 have e:Ma st.d (k:Nat) Jj BP.done=(0,⟨D6 Jj (k:Nat) st.d.BB,none,st.d.AR,J3 st.d.ops,false⟩):=by
  unfold Ma MZ;rw[h.dn,Fe h.len (show k < 7 by omega),h.pl];rfl
 rw[e];refine⟨rfl,h.sl,rfl,rfl,(Gl _ _ _).trans h.len,?_,fun t ht=>?_⟩
 ·show CV ⟨D6 Jj _ _,_,_,_,_⟩ _=_;rw[LM (by rw[h.len];omega),HI rfl,h.im k hk];rfl
 ·show CV ⟨D6 Jj _ _,_,_,_,_⟩ _=_;rw[LM (by rw[h.len];omega),E7 (ZK ht)]
theorem zi {d0 d:Ab} {k:Nat} {b l:Ad} (h:TeD d0 d k b) (hk:k < 5) (hl:b.length+l.length<=600):(DX d (k:Nat) l).1=0/\TeD d0 (DX d (k:Nat) l).2 k (b++l):=by
 have e:=Te (l:=l) h.dn h.pl h.len (show k < 7 by omega) (by
  have e:Gw d (k:Nat)=(CV d (k:Nat)).size - (CV d (k:Nat)).b.length:=rfl;rw[e,h.z];show(l.length:Int)<=600 - (b.length:Int);omega)
 rw[e];refine⟨rfl,h.sl,rfl,rfl,(Gl (fun m=>FP m l) _ d.BB).trans h.len,?_,fun t ht=>?_⟩
 ·show CV ⟨D6 _ _ _,_,_,_,_⟩ _=_;rw[LM (by rw[h.len];omega),HI rfl,h.z];rfl
 ·show CV ⟨D6 _ _ _,_,_,_,_⟩ _=_;rw[LM (by rw[h.len];omega),E7 (ZK ht),h.ne t ht]
theorem jr {d:Ab} {s:Nat} {b:Ad} {fs:List C2} (hb:(CV d (s:Nat)).b=b) (h:GS b 0 b.length (s:Nat) b.length 0=D4 (s:Nat) 0 fs):Gp d (s:Nat)=D4 (s:Nat) 0 fs:=by
 unfold Gp;rw[jL,hb];cases hz:decide (b.length=0)
 ·rw[Dg];unfold T8;rw[Nt,hb];exact h
 ·have hz:=fX hz;rw[Al];rw[hz]at h;exact h
theorem zK {s:Int} {rs:List C2} (hok:∀r∈rs,r.ok):GS (B3 rs) 0 (B3 rs).length s (B3 rs).length 0=D4 s 0 rs:=by
 have:=Ss (s:=s) rs (B3 rs).length 0 hok (PM _) (Nat.sub_le _ _) (by omega) (l:=B3 rs) (fun t ht=>by
  rw[ABD,cl,Hq])
 rw[this,aU rs 0 (by omega)]
theorem AAH {st:PF} {i:Nat} {rs:Nat->List C2} {us:Nat->Nat} (h:FI st i rs us) (hi:i<=1000) {d:Ab} {k:Nat} {b:Ad} {fk post:List C2} (hT:TeD st.d d k b) (hk:k < 5) (hb:b.length<=600) (he:rs k=fk++post) (hf:GS b 0 b.length (k:Nat) b.length 0=D4 (k:Nat) 0 fk):AAN d (GR rs k fk):=by
 have hA:∀t:Nat,t≠k->GR rs k fk t=rs t:=fun t ht=>PX _ _ ht
 have hB:=Mw rs k fk;have hm:∀t:Nat,∀r∈GR rs k fk t,r∈rs t:=fun t r hr=>by
  by_cases e:t=k
  ·subst e;rw[hB]at hr;rw[he];exact ib _ hr
  ·rw[hA t e]at hr;exact hr
 have hlen:(B3 (rs k)).length=(B3 fk).length+(B3 post).length:=by rw[he,Zk,Fu]
 refine⟨hT.sl,hT.dn,hT.len,fun s hs=>?_,fun s hs=>?_,fun s hs=>?_,fun s hs r hr=>h.ok s hs r (hm s r hr),fun s hs=>?_,fun s s' hs hs' hn r hr r' hr'=>h.DG s s' hs hs' hn r (hm s r hr) r' (hm s' r' hr'),fun s hs=>?_⟩
 ·by_cases e:s=k
  ·subst e;rw[hT.z];show b.length<=700;omega
  ·rw[hT.ne s e,h.im s hs];have:=h.sz s hs;show(B3 (rs s)).length<=700;omega
 ·by_cases e:s=k
  ·subst e;rw[hB];exact jr (by rw[hT.z]) hf
  ·rw[hA s e];exact jr (by rw[hT.ne s e,h.im s hs]) (zK (h.ok s hs))
 ·by_cases e:s=k
  ·subst e;rw[hB];have:=h.sz s hs;omega
  ·rw[hA s e];exact h.sz s hs
 ·by_cases e:s=k
  ·subst e;rw[hB];have:=h.nd s hs;rw[he,ABq]at this;exact(List.nodup_append.1 this).1
  ·rw[hA s e];exact h.nd s hs
 ·have hc:=h.qk s hs
  by_cases e:s=k
  ·subst e;rw[hB];rw[he,Fu]at hc;omega
  ·rw[hA s e];omega
abbrev zM (c:BT):Prop:=AX XTe 22 AG (fun v _=>v= .bool true) c
variable (hW:CY Tryz.prog AI Dj uw)
include hW in
theorem AAb:Ci cTe:= .cons gH <| .other Sz (KE Ws) <| .other YH (KE bU) <| .other zC (KE (M0 _ _)) <| .other Sl (KE (M0 _ _)) <| .cons jI <| .cons sn <| .cons oG <| .other hW tL .nil
include hW in
theorem AAK {S S2:Stop} {h1 h2:BT->Bool} {Q:Bm} {R R2:Bz} {x:BT} (hS:22<=S.N) (hS2:22<=S2.N) (hQ:∀v l,Q v l->v= .bool true) (hR:∀c,R c->zM c) (hR2:∀c,R2 c->zM c) (h:gV S h1 S2 h2 Q R R2 x):zM x:=
 IH (hs:=[]) (f:=AG) (ids:=[]) (S:=S) (S2:=S2) (h1:=h1) (h2:=h2) (ks:=[]) (Q:=Q) (R:=R) (R2:=R2) (Q':=fun v _=>v= .bool true) (AAb hW).pf (M:=22) (by kernel_rfl) hS hS2 (fun v H hq=>hQ _ _ hq) hR hR2 900 x h
theorem Y4 {S S2:Stop} {h1 h2:BT->Bool} {x:BT} {R R2:Bz} (hW:CY Tryz.prog AI Dj uw) (hS:22<=S.N) (hS2:22<=S2.N) (hR:∀c,R c->zM c) (hR2:∀c,R2 c->zM c) (h:gV S h1 S2 h2 (fun _ _=>False) R R2 x):zM x:=AAK hW hS hS2 (fun _ _ hq=>hq.elim) hR hR2 h
section
variable {l:List B2} {tl raw:Ad} {d:Ab} {x:Cm} {L:Nat->Aw} {u:Nat->Int} {tm rm s:Nat} {n w:Int}
structure z8 (e:NQ):Prop where
 o0:0<=e.2.2.2.2.1
 o1:e.2.2.2.2.1<=1000
 z0:0<=e.2.2.2.2.2
 z1:e.2.2.2.2.2<=1000
theorem y6 {x:Int} (h1: -1000000<=x) (h2:x<=1000000):IntKind.wrap .i64 x=x:=wrap64 (by omega) (by omega)
theorem AAJ {i:Nat} (h:i<=1000):IntKind.wrap .i64 ((i:Int)+1)=((i+1:Nat):Int):=by rw[y6 (by omega) (by omega)];rfl
include hW in
theorem zb (hs:s < 5) (hL:(L s).length<=1000) (hE:∀e∈L s,z8 e) {P:Int} (hP0:0<=P) (hP1:P.toNat < rm) (hrm:rm<=raw.length)
 (hK:zM (zA l tl (raw.set (0+P.toNat) (zx (raw.getD (0+P.toNat) 0))) d L u tm rm s n P 0 (0:Nat))):∀(k i:Nat) (p:Int),(L s).length - i=k->i<=(L s).length->0<=p->p<=2000->z7 ((L s).drop i) p=P->zM (y8 l tl raw d L u tm rm s n p (i:Nat)):=by
 intro k;induction k with
 | zero=>
  intro i p hk hi p0 p1 he;rw[di (by omega)]at he;have he:p=P:=he;subst he;refine Y4 hW (S:=bH) (S2:=ch) (h1:=fun c=>bH.here c&&Rg 0 c) (h2:=fun c=>ch.here c&&Rg 2 c) (R:=fun _=>False) (R2:=fun c=>c=zA l tl (raw.set (0+p.toNat) (zx (raw.getD (0+p.toNat) 0))) d L u tm rm s n p 0 (0:Nat)) (by decide) (by decide) (fun c h=>h.elim) (fun c hc=>by rw[hc];exact hK) ?_;rw[za hs];have hb:(decide (0<=p)&&Nat.blt p.toNat rm)=true:=by rw[Fp p0,Gc hP1];rfl
  have hc:Nat.blt (0+p.toNat) raw.length=true:=Gc (by omega);exact AZ (GP (by omega)) (AB hb (AB hc (AB hb (AB hc rfl))))
 | succ k ih=>
  intro i p hk hi p0 p1 he;have hi2:i < (L s).length:=by omega
  rw[dG hi2]at he;have he:z7 ((L s).drop (i+1)) (bR p (DI (L s) i))=P:=he;have hS:=hE _ (WT hi2);have o0:=hS.o0;have o1:=hS.o1;refine Y4 hW (S:=bH) (S2:=ch) (h1:=fun c=>bH.here c&&Rg 0 c) (h2:=fun c=>ch.here c&&Rg 2 c) (R:=fun c=>c=y8 l tl raw d L u tm rm s n (bR p (DI (L s) i)) ((i+1:Nat):Int)) (R2:=fun _=>False) (by decide) (by decide) (fun c hc=>?_) (fun c h=>h.elim) ?_
  ·rw[hc];refine ih (i+1) _ (by omega) (by omega) ?_ ?_ he
   ·unfold bR;cases decide (5<=p - (DI (L s) i).2.2.2.2.1)&&decide (p - (DI (L s) i).2.2.2.2.1<=7)
    ·exact p0
    ·rw[Al];omega
   ·unfold bR;cases decide (5<=p - (DI (L s) i).2.2.2.2.1)&&decide (p - (DI (L s) i).2.2.2.2.1<=7)
    ·exact p1
    ·rw[Al];omega
  ·rw[za hs];simp only[HR,Hq];generalize DI (L s) i=e at o0 o1;rw[y6 (x:=p - e.2.2.2.2.1) (by omega) (by omega),y6 (x:=e.2.2.2.2.1+8) (by omega) (by omega),AAJ (by omega)];refine AB (Fp (by omega)) (AB (EI hi2) (AB (Gc hi2) (BX (fun h5=>BX (fun h7=>?_) fun h7=>?_) fun h5=>?_)))
   ·have e1:bR p e=e.2.2.2.2.1+8:=by
     unfold bR;have h5:decide (5<=p - e.2.2.2.2.1)=true:=h5;rw[h5,h7];rfl
    rw[e1]
   ·have e1:bR p e=p:=by unfold bR;rw[h7,jP];rfl
    rw[e1]
   ·have e1:bR p e=p:=by
     unfold bR;have h5:decide (5<=p - e.2.2.2.2.1)=false:=h5;rw[h5];rfl
    rw[e1]
include hW in
theorem zm (hs:s < 5) (hL:(L s).length<=1000) (hE:∀e∈L s,z8 e) {p W:Int} (hK:zM (Zp l tl raw d L u tm rm s n W)):∀(k i:Nat) (w:Int),(L s).length - i=k->i<=(L s).length->0<=w->w<=i->((L s).drop i).foldl (dw p) w=W->zM (zA l tl raw d L u tm rm s n p w (i:Nat)):=by
 intro k;induction k with
 | zero=>
  intro i w hk hi w0 w1 he;rw[di (by omega)]at he;have he:w=W:=he;subst he;refine Y4 hW (S:=ch) (S2:=kb) (h1:=fun c=>ch.here c&&Rg 2 c) (h2:=iC 27) (R:=fun _=>False) (R2:=fun c=>c=Zp l tl raw d L u tm rm s n w) (by decide) (by decide) (fun c h=>h.elim) (fun c hc=>by rw[hc];exact hK) ?_;rw[zh hs];exact AZ (GP (by omega)) rfl
 | succ k ih=>
  intro i w hk hi w0 w1 he;have hi2:i < (L s).length:=by omega
  rw[dG hi2]at he;have he:((L s).drop (i+1)).foldl (dw p) (dw p w (DI (L s) i))=W:=he;have hS:=hE _ (WT hi2);have o0:=hS.o0;have o1:=hS.o1;have z0:=hS.z0;have z1:=hS.z1;refine Y4 hW (S:=ch) (S2:=kb) (h1:=fun c=>ch.here c&&Rg 2 c) (h2:=iC 27) (R:=fun c=>c=zA l tl raw d L u tm rm s n p (dw p w (DI (L s) i)) ((i+1:Nat):Int)) (R2:=fun _=>False) (by decide) (by decide) (fun c hc=>?_) (fun c h=>h.elim) ?_
  ·rw[hc];refine ih (i+1) _ (by omega) (by omega) ?_ ?_ he
   ·unfold dw;cases decide ((DI (L s) i).2.2.2.2.1+(DI (L s) i).2.2.2.2.2<=p)
    ·exact w0
    ·rw[Al];omega
   ·unfold dw;cases decide ((DI (L s) i).2.2.2.2.1+(DI (L s) i).2.2.2.2.2<=p)
    ·rw[Dg];omega
    ·rw[Al];omega
  ·rw[zh hs];simp only[HR,Hq];generalize DI (L s) i=e at o0 o1 z0 z1;rw[y6 (x:=e.2.2.2.2.1+e.2.2.2.2.2) (by omega) (by omega),y6 (x:=w+1) (by omega) (by omega),AAJ (by omega)];refine AB (Fp (by omega)) (AB (EI hi2) (AB (Gc hi2) (BX (fun h=>?_) fun h=>?_)))
   ·have e1:dw p w e=w+1:=by unfold dw;rw[h];rfl
    rw[e1]
   ·have e1:dw p w e=w:=by unfold dw;rw[h];rfl
    rw[e1]
structure zw (x:Cm) (L:Nat->Aw) (s:Nat) (w:Int):Prop where
 w0:0<=w
 w1:w.toNat<=(L s).length
 es:∀i:Nat,i < 5->V4 x i
 eq:∀i:Nat,i < 5->i≠s->PR (Ux x (i:Nat)) (L i) (Ux x (i:Nat)).length (L i).length
 eqs:PR (Ux x (s:Nat)) (L s) (Ux x (s:Nat)).length w.toNat
include hW in
theorem zk (h:zw x L s w):∀(k i:Nat),5 - i=k->i<=5->zM (iA l tl raw d x L u s w (i:Nat)):=by
 intro k;induction k with
 | zero=>
  intro i hk hi;have e:i=5:=by omega
  subst e;refine AAK hW (S:=zH) (S2:=zZ []) (h1:=lu) (h2:=Jo) (Q:=fun v _=>v= .bool true) (R:=fun _=>False) (R2:=fun _=>False) (by decide) (by decide) (fun v l hq=>hq) (fun c h=>h.elim) (fun c h=>h.elim) ?_;show gV _ _ _ _ _ _ _ (iA l tl raw d x L u s w 5);rw[AAT]
 | succ k ih=>
  intro i hk hi;have hi5:i < 5:=by omega
  refine Y4 hW (S:=zH) (S2:=zZ []) (h1:=lu) (h2:=Jo) (R:=fun c=>c=iA l tl raw d x L u s w ((i+1:Nat):Int)) (R2:=fun _=>False) (by decide) (by decide) (fun c hc=>by rw[hc];exact ih (i+1) (by omega) (by omega)) (fun c h=>h.elim) ?_;rw[AAM hi5]
  by_cases e:i=s
  ·subst e;have w0:=h.w0;have hb:(decide (0<=w)&&Nat.ble (Int.toNat w) (L i).length&&decide ((0:Int)<=0)&&Nat.ble 0 (Int.toNat w))=true:=by
    rw[Fp w0,B0 h.w1,B0 (PM _)];rfl
   exact AB (ABZ.2 rfl) (AB hb ⟨⟨rfl,h.es i hi5⟩,h.eqs,rfl⟩)
  ·exact AZ (fH.2 (by omega)) ⟨⟨rfl,h.es i hi5⟩,h.eq i hi5 e,rfl⟩
def Xk (tl:Ad):Ad:=[1,2,3,4,255]++tl.take 60
include hW in
theorem zR {D1 D2 D3:Ab} (hrm:rm=raw.length) (hn:n=(raw.length:Nat)) (hrl:raw.length<=600) (htm:tm=tl.length) (h1:(Ma d (s:Nat) Jj BP.done).1=0) (e1:(Ma d (s:Nat) Jj BP.done).2=D1) (h2:(DX D1 (s:Nat) raw).1=0) (e2:(DX D1 (s:Nat) raw).2=D2)
 (h3:raw.length+(Xk tl).length<=600->(DX D2 (s:Nat) (Xk tl)).1=0/\(DX D2 (s:Nat) (Xk tl)).2=D3) (h4:¬raw.length+(Xk tl).length<=600->D2=D3) (hSc:N9 D3) (hE:zw (EG D3) L s w):zM (Zp l tl raw d L u tm rm s n w):=by
 subst hrm htm hn;have hmin:((if 60 < Int.ofNat tl.length then 60 else Int.ofNat tl.length:Int))=((min 60 tl.length:Nat):Int):=by
  split
  ·rename_i h;have h:(60:Int) < (tl.length:Int):=h;have:min 60 tl.length=60:=by omega
   rw[this];rfl
  ·rename_i h;have h:¬(60:Int) < (tl.length:Int):=h;have:min 60 tl.length=tl.length:=by omega
   rw[this];rfl
 have hm60:min 60 tl.length<=60:=jY ..;have hml:min 60 tl.length<=tl.length:=Nat.min_le_right ..;have htk:tl.take (min 60 tl.length)=tl.take 60:=by
  rcases Nat.le_total 60 tl.length with h | h
  ·rw[bV h]
  ·rw[Nat.min_eq_right h,HM (CC _),HM h]
 have hlen:(Xk tl).length=5+min 60 tl.length:=by unfold Xk;rw[Fu,IP];rfl
 refine Y4 hW (S:=AAI) (S2:=zZ []) (h1:=iC 28) (h2:=Jo) (R:=fun c=>c=zP l tl raw d L u raw.length s (raw.length:Nat) w (Xk tl) (5+min 60 tl.length)) (R2:=fun _=>False) (by decide) (by decide) (fun c hc=>?_) (fun c h=>h.elim) ?_
 ·rw[hc];refine Y4 hW (S:=zH) (S2:=zZ []) (h1:=lu) (h2:=Jo) (R:=fun c=>c=iA l tl raw D3 (EG D3) L u s w (0:Nat)) (R2:=fun _=>False) (by decide) (by decide) (fun c hc=>by rw[hc];exact zk hW hE _ 0 rfl (by omega)) (fun c h=>h.elim) ?_;rw[AAP];(conv=>zeta)
  have t1:raw.take raw.length=raw:=cl;have t2:(Xk tl).take (5+min 60 tl.length)=Xk tl:=by rw[<-hlen];exact cl
  rw[t1,t2,e1,e2];refine⟨congrArg int h1,CC _,congrArg int h2,?_⟩;have hw:IntKind.wrap .i64 (((raw.length:Nat):Int)+Int.ofNat (5+min 60 tl.length))=((raw.length+(5+min 60 tl.length):Nat):Int):=y6 (x:=((raw.length+(5+min 60 tl.length):Nat):Int)) (by omega) (by omega);rw[hw]
  by_cases hc:raw.length+(Xk tl).length<=600
  ·obtain⟨h3,e3⟩:=h3 hc;rw[e3];exact AB (Fp (by rw[hlen]at hc;omega)) ⟨by rw[hlen];exact CC _,congrArg int h3,hSc,rfl⟩
  ·have e3:=h4 hc;rw[e3];exact AZ (GP (by rw[hlen]at hc;omega)) ⟨hSc,rfl⟩
 ·rw[AAR];(conv=>zeta);rw[hmin]
  simp only[HR,ABD,O9,Hq,Int.sub_zero,ABL,Yz];have hw:IntKind.wrap .i64 (5+Int.ofNat (min 60 tl.length))=((5+min 60 tl.length:Nat):Int):=y6 (x:=((5+min 60 tl.length:Nat):Int)) (by omega) (by omega);have hww:IntKind.wrap .i64 ((5+min 60 tl.length:Nat):Int)=((5+min 60 tl.length:Nat):Int):=y6 (by omega) (by omega);simp only[hw,hww,HR,htk];have hbig:BQ 1 (5+min 60 tl.length)=true:=by
   unfold BQ;rw[B0 (by omega),B0 (by omega)];rfl
  have hble:Nat.ble (min 60 tl.length) tl.length=true:=B0 hml;refine AB ?_ (AZ (GP (by omega)) (AZ (GP (by omega)) (AB (Fp (by omega)) (AB ?_ (AZ ?_ (AB hbig (AB ?_ rfl)))))))
  ·rw[hble,Fp (show(0:Int)<=((min 60 tl.length:Nat):Int)from WQ _),B0 (PM _)];rfl
  ·rw[Fp (show(0:Int)<=((5+min 60 tl.length:Nat):Int) by omega),Fp (show((5+min 60 tl.length:Nat):Int)<=140737488355328 by omega)];rfl
  ·cases hb:Nat.beq (5+min 60 tl.length) 0
   ·rfl
   ·have:=BG hb;omega
  ·rw[hble,hbig];rfl
end
end Go.AD
namespace Go.AD
open Go.Proofs
def AAL (c:Nat):Bool:=decide (0<=zx c)&&decide (zx c < 256)&& !(zx c==(c:Int))&&(!(c==1)||zx c==0)&&(!(c==2)||zx c==3)
theorem z6:(List.range 256).all AAL=true:=by kernel_rfl
theorem AAO {c:Nat} (h:c < 256):∃d:Nat,zx c=(d:Int)/\d < 256/\c≠d/\(c=1->d=0)/\(c=2->d=3):=by
 have:=List.all_eq_true.1 z6 c (List.mem_range.2 h);unfold AAL at this;generalize zx c=x at this;simp only[DL,gO,Mr,fO,fH,ABZ]at this;obtain⟨⟨⟨⟨h0,h1⟩,h2⟩,h3⟩,h4⟩:=this;exact⟨x.toNat,by omega,by omega,by omega,fun e=>by rcases h3 with h3 | h3<;>omega,fun e=>by rcases h4 with h4 | h4<;>omega⟩
theorem y9 {rs:List C2} (h:(B3 rs).length=0):rs=[]:=by
 cases rs with
 | nil=>rfl
 | cons r l=>
  have hB:B3 (r::l)=r.bytes++B3 l:=rfl;have:=r.Xo;rw[hB,Fu,r.len]at h;omega
theorem gA {s:Int}:∀(rs:List C2) (off:Nat),off+(B3 rs).length<=1000->∀e∈D4 s off rs,z8 e
 | [],_,_,e,he=>by cases he
 | r::rs,off,h,e,he=>by
  have hB:B3 (r::rs)=r.bytes++B3 rs:=rfl;rw[hB,Fu,r.len]at h;rcases List.mem_cons.1 he with rfl | he
  ·exact⟨WQ _,by show(off:Int)<=1000;omega,WQ _,by show(r.size:Int)<=1000;omega⟩
  ·exact gA rs (off+r.size) (by omega) e he
theorem zl {tl:Ad} (h:vd tl):vd (Xk tl):=fun x hx=>by
 unfold Xk at hx;rcases List.mem_append.1 hx with hx | hx
 ·simp only[WL,YC,AAw]at hx;rcases hx with rfl | rfl | rfl | rfl | rfl
  ·exact⟨1,rfl,by decide⟩
  ·exact⟨2,rfl,by decide⟩
  ·exact⟨3,rfl,by decide⟩
  ·exact⟨4,rfl,by decide⟩
  ·exact⟨255,rfl,by decide⟩
 ·exact h x (ABE hx)
theorem zn (tl:Ad):(Xk tl).length<=65:=by unfold Xk;rw[Fu,IP];show 5+_<=65;omega
variable (hW:CY Tryz.prog AI Dj uw)
include hW in
theorem ze {l:List B2} {tl:Ad} {st:PF} {i s:Nat} {rs:Nat->List C2} {us:Nat->Nat} (hF:FI st i rs us) (hi:i<=50) (hs:s < 5) {fk post:List C2} (he:rs s=fk++post) {raw:Ad} (hr:raw.length<=600)
 (hsc:∀t,(t=Xk tl/\raw.length+t.length<=600)∨(t=[]/\¬raw.length+(Xk tl).length<=600)->GS (raw++t) 0 (raw++t).length (s:Nat) (raw++t).length 0=D4 (s:Nat) 0 fk) {n w:Int} (hn:n=(raw.length:Nat)) (hw:w=(fk.length:Nat)) {rm:Nat} (hrm:rm=raw.length):
 zM (Zp l tl raw st.d st.L st.u tl.length rm s n w):=by
 obtain⟨a1,a2⟩:=zf hF hs;obtain⟨b1,b2⟩:=zi (l:=raw) a2 hs (by show 0+_<=600;omega);have fin:∀(D:Ab) (b:Ad),b.length<=600->TeD st.d D s b->GS b 0 b.length (s:Nat) b.length 0=D4 (s:Nat) 0 fk->N9 D/\zw (EG D) st.L s w:=fun D b hb hD hsb=>by
  have hQ:=AAH hF (by omega) hD hs hb he hsb;obtain⟨q1,q2,q3⟩:=zr hQ;have hc:∀i:Nat,i < 5->(GR rs s fk i).length<=50:=fun t ht=>by
   have h1:=hF.qk t ht
   by_cases e:t=s
   ·subst e;rw[Mw];rw[he,Fu]at h1;omega
   ·rw[PX _ _ e];omega
  have hes:∀t:Nat,t < 5->Ux (EG D) (t:Nat)=D4 (t:Nat) 0 (GR rs s fk t):=fun t ht=>by
   unfold Ux;rw[HR,q3 t ht,HM (by rw[H6];have:=hc t ht;omega)]
  refine⟨q1,by rw[hw];exact WQ _,?_,fun t ht=>⟨by rw[q2];exact ht,by rw[q2];decide,by rw[q3 t ht,H6];have:=hc t ht;omega⟩,fun t ht hn=>?_,?_⟩
  ·rw[hw,HR,hF.L s hs,H6,he,Fu];omega
  ·have e:Ux (EG D) (t:Nat)=st.L t:=by rw[hes t ht,PX _ _ hn,hF.L t ht]
   rw[e];refine⟨CC _,CC _,rfl,?_⟩;rw[hF.L t ht,H6];have:=hF.qk t ht;omega
  ·have e:Ux (EG D) (s:Nat)=D4 (s:Nat) 0 fk:=by rw[hes s hs,Mw]
   have hf:=hc s hs;rw[Mw]at hf;rw[e,hw,HR];refine⟨CC _,?_,?_,by rw[H6];omega⟩
   ·rw[hF.L s hs,H6,he,Fu];omega
   ·rw[cl,hF.L s hs,he,Sw,TS (by rw[H6];exact CC _),HM (by rw[H6];exact CC _)]
 rw[Yz]at b2
 by_cases hfit:raw.length+(Xk tl).length<=600
 ·obtain⟨c1,c2⟩:=zi (l:=Xk tl) b2 hs hfit;obtain⟨f1,f2⟩:=fin _ _ (by rw[Fu];exact hfit) c2 (hsc _ (.inl ⟨rfl,hfit⟩));exact zR hW hrm hn hr rfl a1 rfl b1 rfl (fun _=>⟨c1,rfl⟩) (fun h=>absurd hfit h) f1 f2
 ·have h0:=hsc [] (.inr ⟨rfl,hfit⟩);rw[eA]at h0;obtain⟨f1,f2⟩:=fin _ _ hr b2 h0;exact zR hW hrm hn hr rfl a1 rfl b1 rfl (fun h=>absurd h hfit) (fun _=>rfl) f1 f2
include hW in
theorem AAD {l:List B2} {tl:Ad} {a k:Int} (hput:∀i,Ld (PJ l i)) (a0:0<=a) (k0:0<=k) (k1:k < 65536) (ht:vd tl):zM (st AG [Ao 20 l.length,.int .u8 a,Ao 21 tl.length,.int .u16 k] (hp [.vec JQ l true,.vec kB tl true])):=by
 have hkl:=(Xn l.length).2;obtain⟨hall,rs,us,hF⟩:=ji hput (Mc l.length) 0 Oo _ _ (by omega) yG;have hst:Eo l (Mc l.length) 0 Oo=wO l l.length:=rfl;rw[hst,Hq]at hF;generalize hs0:wO l l.length=s0 at hF hst;obtain⟨s,hs,es⟩:∃s:Nat,s < 5/\IntKind.wrap .i64 (Int.tmod a 5)=(s:Nat):=by
  obtain⟨r0,r1⟩:=MJ (b:=a) (m:=5) a0 (by decide);exact⟨(Int.tmod a 5).toNat,by omega,by rw[wrap64 (by omega) (by omega)];omega⟩
 have him:=hF.im s hs;have hlen:A8 s0.d (s:Nat)=((B3 (rs s)).length:Nat):=by unfold A8;rw[him]
 have hrd:Ed s0.d (s:Nat) 0 ((B3 (rs s)).length:Nat)=B3 (rs s):=by rw[<-hlen,Nt,him]
 have hbad:=Fe hF.len (show s < 7 by omega);have hrdok:=Rv hF.dn hbad;have hsz:=hF.sz s hs;have hcnt:=hF.qk s hs;have hL:(s0.L s).length=(rs s).length:=by rw[hF.L s hs,H6]
 refine Y4 hW (S:=zZ [2,3,9,10,11,13]) (S2:=zZ []) (h1:=iC 9) (h2:=Jo) (R:=fun c=>c=AAQ l tl (B3 (rs s)) s0.d s0.L s0.u tl.length (B3 (rs s)).length k (s:Nat) ((B3 (rs s)).length:Nat)) (R2:=fun _=>False) (by decide) (by decide) (fun c hc=>?_) (fun c h=>h.elim) ?_
 ·rw[hc]
  by_cases hz:(B3 (rs s)).length=0
  ·have he:=y9 hz;refine Y4 hW (S:=bH) (S2:=kb) (h1:=fun c=>bH.here c) (h2:=iC 27) (R:=fun _=>False) (R2:=fun c=>c=Zp l tl (B3 (rs s)) s0.d s0.L s0.u tl.length (B3 (rs s)).length s ((B3 (rs s)).length:Nat) ((0:Nat):Int)) (by decide) (by decide) (fun c h=>h.elim) (fun c hc=>?_) ?_
   ·rw[hc];refine ze hW hF (by omega) hs (fk:=[]) (post:=[]) (by rw[he];rfl) (by omega) (fun t ht=>?_) rfl rfl rfl;have e0:B3 (rs s)=[]:=Kd hz;rw[e0,Yz];rcases ht with⟨rfl,_⟩ | ⟨_,h⟩
    ·exact zI rfl
    ·have:=zn tl;omega
   ·rw[zt hs];have hL0:Int.ofNat (s0.L s).length=((0:Nat):Int):=by rw[hL,he];rfl
    rw[hL0];exact AZ (GP (by omega)) rfl
  ·have hE:∀e∈s0.L s,z8 e:=by rw[hF.L s hs];exact gA _ 0 (by omega)
   obtain⟨p,hp,ep⟩:∃p:Nat,p < (B3 (rs s)).length/\Int.tmod (IntKind.wrap .i64 k) (((B3 (rs s)).length:Nat):Int)=(p:Int):=by
    obtain⟨r0,r1⟩:=MJ (b:=k) (m:=(((B3 (rs s)).length:Nat):Int)) k0 (by omega);exact⟨(Int.tmod k (((B3 (rs s)).length:Nat):Int)).toNat,by omega,by rw[wrap64 (by omega) (by omega)];omega⟩
   obtain⟨pre,r,post,o,e,ho,h5,hm,hc⟩:=zy (s:Nat) hp;have hB:B3 (rs s)=B3 pre++(r.bytes++B3 post):=by rw[e,Zk];rfl
   have hPl:(B3 pre).length+o < (B3 (rs s)).length:=by rw[hB,Fu,Fu,r.len];omega
   obtain⟨c,hcl,hc256⟩:=Zn (rs s) _ (AA8 hPl);have hcs:(B3 (rs s))[(B3 pre).length+o]? = some (c:Int):=by rw[FL hPl,hcl]
   have hgd:(B3 (rs s)).getD ((B3 pre).length+o) 0=(c:Int):=by rw[F5,hcs];rfl
   obtain⟨d,ed,hd,hne,h1,h2⟩:=AAO hc256;refine Y4 hW (S:=bH) (S2:=kb) (h1:=fun c=>bH.here c) (h2:=iC 27) (R:=fun c=>c=y8 l tl (B3 (rs s)) s0.d s0.L s0.u tl.length (B3 (rs s)).length s ((B3 (rs s)).length:Nat) p (0:Nat)) (R2:=fun _=>False) (by decide) (by decide) (fun c hc'=>?_) (fun c h=>h.elim) ?_
   ·rw[hc'];refine zb hW hs (by omega) hE (P:=(((B3 pre).length+o:Nat):Int)) (WQ _) (by rw[HR];exact hPl) (CC _) ?_ _ 0 p rfl (PM _) (WQ _) (by omega) (by rw[O9,hF.L s hs];exact hm);rw[HR,Hq,hgd,ed];have hsl:((B3 (rs s)).set ((B3 pre).length+o) (d:Int)).length=(B3 (rs s)).length:=Ly ..;refine zm hW hs (by omega) hE (W:=((pre.length:Nat):Int)) ?_ _ 0 0 rfl (PM _) (AAv _) (AAv _) (by rw[O9,hF.L s hs];exact hc);refine ze hW hF (by omega) hs e (by rw[hsl];exact hsz) (fun t htt=>?_) (by rw[hsl]) rfl hsl.symm;refine zX e (hF.ok s hs) ho h5 ?_ hcs hd hne h1 h2 (by rw[Fu,hsl];exact CC _);rcases htt with⟨rfl,_⟩ | ⟨rfl,_⟩
    ·exact zl ht
    ·exact fun x hx=>by cases hx
   ·rw[zt hs,ep];exact AB (Fp (by omega)) (AB (Fp (by omega)) rfl)
 ·rw[AAW];(conv=>zeta);rw[hs0,hst,es,hlen,hrd]
  exact⟨⟨rfl,hall⟩,⟨hF.dn,hbad⟩,ad _ _ (by rw[hlen]at hrdok;exact hrdok),AZ (by simp) rfl⟩
end Go.AD
