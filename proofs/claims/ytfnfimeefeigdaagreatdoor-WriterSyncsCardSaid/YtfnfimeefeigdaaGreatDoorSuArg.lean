/-
  Part of the proof: the machine that runs a program by fixed orders, and that each of its runs is a run of the model; or a run of it in parts. No conditions.
-/
import Derived.Test.YtfnfimeefeigdaaGreatDoorLk
import Derived.Test.YtfnfimeefeigdaaGreatDoorAbr
import Derived.Test.YtfnfimeefeigdaaGreatDoorSca
import Derived.Test.YtfnfimeefeigdaaGreatDoorLxb
import Derived.Test.YtfnfimeefeigdaaGreatDoorIdTell3
import Derived.Test.YtfnfimeefeigdaaGreatDoorInc
import Derived.Shelf.Strings.Repeat
import Derived.Test.YtfnfimeefeigdaaGreatDoorChecked
noncomputable section
set_option maxRecDepth 1000000
namespace Go.AD
open Go.Proofs
theorem JW.trans {H:AA} {rs ss:AW} (h:∀b∈ss,JW H rs b) {c:Nat} (hc:JW H ss c):JW H rs c:=by
 induction hc with
 | here hb=>exact h _ hb
 | next _ ho hr ih=>exact .next ih ho hr
theorem SV (b:Nat):∀n j,Cp b j n=(List.range' j n).map fun j=>Value.pointer (some ⟨b,Aa,some j⟩)
 | 0,j=>rfl
 | n+1,j=>by
  show _::Cp b (j+1) n=_;rw[SV b n (j+1),List.range'_succ];rfl
theorem Yf (b n:Nat):Cp b 0 n=Ds b n:=by
 rw[SV];unfold Ds;rw[List.range_eq_range',Dh]
theorem Told.wG {D:Nat->Prop} {Φ:Ih} {v:Value} {H:AA} {s:Pk} {b0 d:Nat} (bs:AW) {objs:BN} (hr:Bx s objs) (hx:C3 s=[]) (hb0:bs[0]? = some b0) (hA:d∈Au 4 v∨D d) (hd:JW H [d] b0) (hnd:bs.Nodup) (hreach:∀b∈bs,JW H [b0] b) (hobj:Ft bs H bs objs) (hroot:∀o T,objs[0]? = some o->¬o.void T)
 (next:∀H2:AA,(∀x,x∉bs->H2.get x=H.get x)->H2.get b0=some (.abs (.pack s) false)->Told D Φ v H2):Told D Φ v H:=by
 have hS:=E2 (s:=s) (H:=H) hnd;refine .shut s objs bs [d] hr ?_ hobj.len hnd (fun b hb=>by rw[Q4]at hb;rw[hb];exact hA) (fun b hb=>JW.trans (fun x hx=>by rw[Q4]at hx;rw[hx];exact hd) (hreach b hb)) (by rw[hx];exact hobj.at) hroot (next _ (fun x hx=>hS.GK x hx) (hS.root b0 hb0));rintro rfl;have:=hobj.len;rw[AA0]at this;rw[List.length_eq_zero_iff.1 this]at hb0;cases hb0
theorem cJ {b0 r a:Nat} {L:List AS} {H:AA} (hn:0 < L.length) (hn2:L.length<=34) (h:ml b0 r a L H):∃objs,Bx (.Bw L) objs/\[b0,r,a][0]? = some b0/\[b0,r,a].Nodup/\(∀b∈[b0,r,a],JW H [b0] b)/\Ft [b0,r,a] H [b0,r,a] objs/\(∀o T,objs[0]? = some o->¬o.void T):=Qz hn hn2 h
theorem eS {d a b:Nat} {s:Ab} {H:AA} (hd:FQ s) (hn:[d,a,b].Nodup) (h:[H.get d,H.get a,H.get b]=eh a b s):∃objs,Bx (.dev s) objs/\[d,a,b][0]? = some d/\[d,a,b].Nodup/\(∀x∈[d,a,b],JW H [d] x)/\Ft [d,a,b] H [d,a,b] objs/\(∀o T,objs[0]? = some o->¬o.void T):=by
 simp only[eh,Nh,iy]at h;obtain⟨g0,g1,g2⟩:=h;refine⟨_,.dev s hd,rfl,hn,fun x hx=>?_,⟨⟨_,g0,rfl,rfl,?_⟩,⟨_,g1,rfl,rfl,by rfl⟩,⟨_,g2,rfl,rfl,by rfl⟩,trivial⟩,fun o T ho=>by cases ho;exact id⟩
 ·simp only[Ul,bG,vK]at hx;rcases hx with rfl | rfl | rfl
  ·exact .here (by simp)
  ·exact .next (.here (by simp)) g0 (by simp[IK,Au,At,ND])
  ·exact .next (.here (by simp)) g0 (by simp[IK,Au,At,ND])
 ·refine Qx ?_ ?_ _ _ _
  ·rfl
  ·rfl
theorem AB3 {D:Nat->Prop} {Φ:Ih} {v:Value} {H:AA} {d c R m:Nat} {L:List AS} {zs:AW} (hn:0 < L.length) (hn2:L.length<=34) (hm:m=L.length) (hz:zs.length=L.length) (hnd:(c::R::zs).Nodup) (gc:H.get c=some (.cells [.slice (some ⟨R,0,none⟩) m (Aa+m)] 0 false))
 (gR:H.get R=some (.cells (zs.map At) 1 false)) (gz:∀p∈zs.zip (L.map Pk.CJ),H.get p.1=some (.abs (.pack p.2) false)) (hA:d∈Au 4 v∨D d) (hrc:∀K:AA,(∀x o,H.get x=some o->x≠c->x≠R->x∉zs->K.get x=some o)->JW K [d] c)
 (next:∀H2:AA,H2.get c=some (Lv (.Bw L))->(∀x o,H.get x=some o->x≠c->x≠R->x∉zs->H2.get x=some o)->Told D Φ v H2):Told D Φ v H:=by
 generalize hzz:zs.zip (L.map Pk.CJ)=zz at gz;have hzl:zz.map Prod.fst=zs:=by rw[<-hzz];exact List.map_fst_zip (by rw[oB,hz];exact GO _)
 have hzs:zz.map (fun p=>some p.2)=L.map fun m=>some (.CJ m):=by
  have:zz.map Prod.snd=L.map Pk.CJ:=by rw[<-hzz];exact List.map_snd_zip (by rw[oB,hz];exact GO _)
  rw[show(fun p:Nat × Pk=>some p.2)=some ∘ Prod.snd from rfl,<-AAw,this,AAw];rfl
 have hlen:zz.length=m:=by rw[hm,<-hz,<-hzl,oB]
 have hzx:∀p∈zz,C3 p.2=[]:=fun p _=>rfl
 simp only[lW,Ul,AAq]at hnd;obtain⟨⟨n5,n7⟩,n9,n11⟩:=hnd;have zne:∀p∈zz,p.1∈zs:=fun p hp=>by rw[<-hzl];exact List.mem_map.2 ⟨p,hp,rfl⟩
 have Jl:zs.map At=zz.map fun p=>Value.pointer (some ⟨p.1,0,none⟩):=by rw[<-hzl,AAw];rfl
 have hzne:zs≠[]:=by intro e;rw[e]at hz;have hz:(0:Nat)=L.length:=hz;omega
 refine .JF R [.tok] (zs.map At) false (by rw[D9];exact gR) ?_;refine .wy R [.tok] (zs.map At) false (by rw[AA.AU,MB rfl]) (by intro e;exact hzne (List.map_eq_nil_iff.1 e)) (by decide) v (.val (.same v)) c _ _ 0 false (by rw[AA.AU,JT n5];exact gc) (.cons (.row m _ m rfl) .nil) ?_;generalize hH1:(H.put R (.vec [.tok] (zs.map At) false)).put c (.cells [.slice (some ⟨R,0,some 0⟩) m Aa] 0 false)=H1;have get1:∀x,H1.get x=if x=c then some (.cells [.slice (some ⟨R,0,some 0⟩) m Aa] 0 false)else if x=R then some (.vec [.tok] (zs.map At) false)else H.get x:=fun x=>by rw[<-hH1,AA.AU,AA.AU]
 have hfar1:∀x o,H.get x=some o->x≠c->x≠R->H1.get x=some o:=fun x o hx h1 h2=>by rw[get1,JT h1,JT h2];exact hx
 have hc1:H1.get c=some (.cells [.slice (some ⟨R,0,some 0⟩) m Aa] 0 false):=by rw[get1,MB rfl]
 have hR1:H1.get R=some (.vec [.tok] (zz.map fun p=>Value.pointer (some ⟨p.1,0,none⟩)) false):=by rw[get1,JT (gi n5),MB rfl,Jl]
 have hz1:∀p∈zz,H1.get p.1=some (.abs (.pack p.2) false):=fun p hp=>by
  have:=zne p hp;rw[get1,JT (fun e=>n7 (by rw[<-e];exact this)),JT (fun e=>n9 (by rw[<-e];exact this))];exact gz p hp
 have rR:∀{K:AA},JW K [d] c->K.get c=some (.cells [.slice (some ⟨R,0,some 0⟩) m Aa] 0 false)->JW K [d] R:=fun g g2=> .next g g2 (by simp[IK,Au])
 have rc1:JW H1 [d] c:=hrc H1 fun x o hx h1 h2 _=>hfar1 x o hx h1 h2
 refine .members R zz [d] hR1 (fun p hp=>⟨hz1 p hp,hzx p hp⟩) (by rw[hzl];exact n11) (by intro e;rw[e]at hlen;have hlen:0=m:=hlen;omega) (fun b hb=>by rw[Q4]at hb;rw[hb];exact hA) (fun p hp=> .next (rR rc1 hc1) hR1 ?_) fun hlt=>?_
 ·show p.1∈(Ag [.tok] _).flatMap (Au 4);rw[D9];exact List.mem_flatMap.2 ⟨.pointer (some ⟨p.1,0,none⟩),List.mem_map.2 ⟨p,hp,rfl⟩,by simp[Au]⟩
 have al:∀x,x < H1.next->(H1.alloc (.abs (.Bl []) false)).get x=H1.get x:=fun x hx=>by rw[AA.AM,JT (ABq hx)]
 obtain⟨k1,k2,k3,k4⟩:=QN (r:=R) zz H1.next [] (H1.alloc (.abs (.Bl []) false)) (fun x o hx=>by
  rw[AA.AM]at hx;show x < H1.next+1
  by_cases e:x=H1.next
  ·omega
  ·rw[JT e]at hx;have:=hlt _ _ hx;omega) (by rw[AA.AM,MB rfl]) (by rw[al R (hlt _ _ hR1)];exact hR1) (fun p hp=>by rw[al _ (hlt _ _ (hz1 p hp))];exact hz1 p hp) (by rw[hzl];exact n11)
 generalize hA2:Ep R zz H1.next [] (H1.alloc (.abs (.Bl []) false))=A at k1 k2 k3 k4 ⊢;obtain⟨a,H2⟩:=A;simp only at k1 k2 k3 k4 ⊢;have hage:H1.next<=a:=by
  rcases k4 with k4 | k4
  ·omega
  ·exact wQ (ABn _) k4
 have DG:∀x o,H1.get x=some o->x≠R->x∉zs->H2.get x=some o:=fun x o hx h1 h2=>by
  have hl:=hlt _ _ hx;rw[k3 x h1 (by omega) (by rw[hzl];exact h2) (show x < H1.next+1 by omega),al x hl];exact hx
 have hc2:=DG c _ hc1 n5 n7;have hcl:=hlt _ _ hc1;have hRl:=hlt _ _ hR1;have hat:ml c R a L H2:=by
  refine⟨by simp only[lW,Ul,bG,vK,AAq,dG,iy,not_false_eq_true];exact⟨⟨n5,by omega⟩,by omega⟩,?_,?_,?_⟩
  ·rw[hc2];unfold Uw Ao;rw[hm,Dh]
  ·rw[k1,Yf,<-hm];simp only[AA0,RP,hlen]
  ·rw[k2,hzs];rfl
 have rc2:JW H2 [d] c:=hrc H2 fun x o hx h1 h2 h3=>DG x o (hfar1 x o hx h1 h2) h2 h3
 obtain⟨objs,q1,q2,q3,q4,q5,q6⟩:=cJ hn hn2 hat
 refine Told.wG [c,R,a] q1 rfl q2 hA rc2 q3 q4 q5 q6 fun H3 h3 h4=>next H3 h4 fun x o hx h1 h2 h5=>?_
 have hx1:=hfar1 x o hx h1 h2;have hxl:=hlt _ _ hx1;rw[h3 x (by simp only[Ul,bG,vK,AAq];exact⟨h1,h2,by omega⟩)];exact DG x o hx1 h2 h5
theorem ABh {D:Nat->Prop} {Φ:Ih} {v:Value} {H:AA} {d c t n:Nat} {L:List AS} {o:Int} (hn:2<=n) (hn2:n<=32) (hL:L.length=n+2) (hnd:[d,c,t].Nodup) (hd3:H.get d=some (ND c t n o false)) (h4:H.get c=some (Lv (.Bw L))) (ht3:H.get t=some (Lv (.timer none))) (hA:d∈Au 4 v∨D d)
 (next:∀H2:AA,H2.get d=some (Lv (.dev ⟨L,none,n,o,false⟩))->(∀x,x∉[d,c,t]->H2.get x=H.get x)->Told D Φ v H2):Told D Φ v H:=by
 obtain⟨objs,q1,q2,q3,q4,q5,q6⟩:=eS (d:=d) (a:=c) (b:=t) (s:=⟨L,none,n,o,false⟩) (H:=H) ⟨by show(2:Int)<=n;omega,by show(n:Int)<=32;omega,by show(L.length:Int)=n+2;omega,fun p hp=>by cases hp⟩ hnd (by rw[hd3,h4,ht3];rfl);exact Told.pO [d,c,t] q1 rfl q2 hA q3 q4 q5 q6 fun H4 g h5=>next H4 h5 g
theorem o5 {D:Nat->Prop} {Φ:Ih} {v:Value} {H:AA} {d c R t n:Nat} {L:List AS} {zs:AW} (hn:2<=n) (hn2:n<=32) (hL:L.length=n+2) (hz:zs.length=L.length) (hnd:(d::c::R::t::zs).Nodup) (gd:H.get d=some (ND c t n 0 false)) (gc:H.get c=some (.cells [.slice (some ⟨R,0,none⟩) (n+2) (Aa+(n+2))] 0 false))
 (gR:H.get R=some (.cells (zs.map At) 1 false)) (gt:H.get t=some (Lv (.timer none))) (gz:∀p∈zs.zip (L.map Pk.CJ),H.get p.1=some (.abs (.pack p.2) false)) (hA:d∈Au 4 v∨D d) (next:∀H2:AA,H2.get d=some (Lv (.dev ⟨L,none,n,0,false⟩))->Told D Φ v H2):Told D Φ v H:=by
 simp only[lW,Ul,AAq]at hnd;obtain⟨⟨n1,n2,n3,n4⟩,⟨n5,n6,n7⟩,⟨n8,n9⟩,n10,n11⟩:=hnd;refine AB3 (c:=c) (R:=R) (m:=n+2) (by omega) (by omega) hL.symm hz (by simp only[lW,Ul,AAq];exact⟨⟨n5,n7⟩,n9,n11⟩) gc gR gz hA (fun K hK=> .next (.here (by simp)) (hK d _ gd n1 n2 n4) (by simp[IK,Au,At,ND])) fun H3 h4 hK=>?_
 exact ABh hn hn2 hL (by simp only[lW,Ul,bG,vK,AAq,dG,iy,not_false_eq_true];exact⟨⟨n1,n3⟩,n6⟩) (hK d _ gd n1 n2 n4) h4 (hK t _ gt (gi n6) (gi n8) n10) hA fun H2 g _=>next H2 g
def ZV (args:AL) (objs:BN):GT:=match args,objs with
 | [.int .i64 n,.int .i64 s],[]=> .ask (2<=n/\n<=32/\1<=s/\s<=8192) (.ret ⟨.tuple ⟨[At 20,int 0]⟩,[],[.abs (.pack (.dev ⟨(nf n.toNat s).map fun a=>⟨a,0,[]⟩,none,n,0,false⟩)) false]⟩)
 | _,_=> .fail
theorem Wy {K:Prop} (hK:K):∀l:Ad,(∀a∈l,1<=a/\a<=8192)->jx K l
 | [],_=>hK
 | a::l,h=>⟨h a (nB ..),Wy hK l fun b hb=>h b (oo _ hb)⟩
theorem gg {K:Prop} (hK:K):∀l:AW,xx K l
 | []=>hK
 | _::l=>⟨rfl,gg hK l⟩
theorem UR (n:Nat) (s:Int):(nf n s).length=n+2:=by unfold nf;simp
theorem a8 (n:Nat):(dq n).length=n+2:=by unfold dq;simp
theorem gP (n:Nat):((Ny n+2)::24::Ny n::(Ny n+1)::dq n).Nodup:=by
 have hm:∀x∈dq n,25<=x/\x < Ny n:=fun x hx=>by
  unfold dq at hx;obtain⟨i,hi,rfl⟩:=List.mem_map.1 hx;have:=List.mem_range.1 hi;unfold Ny;omega
 have hn:(dq n).Nodup:=by
  unfold dq;rw[List.nodup_iff_pairwise_ne,List.pairwise_map];exact(List.nodup_iff_pairwise_ne.1 List.nodup_range).imp fun h e=>h (by omega)
 have h24:24 < Ny n:=by unfold Ny;omega
 simp only[lW,Ul,AAq];exact⟨⟨by omega,by omega,by omega,fun h=>by have:=hm _ h;omega⟩,⟨by omega,by omega,fun h=>by have:=hm _ h;omega⟩,⟨by omega,fun h=>by have:=hm _ h;omega⟩,fun h=>by have:=hm _ h;omega,hn⟩
theorem aT {H:AA}:∀(zs:AW) (l:Ad) (x:Option AP),zs.length=l.length->zs.map H.get++[x]=l.map (fun a=>some (.abs (.pack (.CJ ⟨a,0,[]⟩)) false))++[x]->∀p∈zs.zip ((l.map fun a=>(⟨a,0,[]⟩:AS)).map Pk.CJ),H.get p.1=some (.abs (.pack p.2) false)
 | [],[],_,_,_,p,hp=>by cases hp
 | z::zs,a::l,x,hl,h,p,hp=>by
  simp only[Sm,sK,Nh]at h;simp only[Sm,List.zip_cons_cons,Ul]at hp;rcases hp with rfl | hp
  ·exact h.1
  ·exact aT zs l x (by simpa using hl) h.2 p hp
 | [],_::_,_,hl,_,_,_=>by cases hl
 | _::_,[],_,hl,_,_,_=>by cases hl
theorem bw:CY Tryz.prog AI EL (Ai AI 20 [] ZV):=by
 refine BF yc.all (by kernel_rfl) (n:=BD EL) (by kernel_rfl) (by kernel_rfl) fun argsc objs x hx hro=>?_
 clear hro;unfold ZV at hx;split at hx
 ·rename_i n s;refine⟨BE (by kernel_rfl),Ak.OE ?_⟩;simp only[GT.run]at hx;split at hx
  ·rename_i h;cases hx
   obtain⟨h2,h32,hs,hs2⟩:=h;obtain⟨m,rfl⟩:∃m:Nat,n=m:=⟨n.toNat,by omega⟩
   have hm2:2<=m:=by omega
   have hm32:m<=32:=by omega
   have hv:CU XW (Ax cW) [] EL (24::Ny m::(Ny m+1)::dq m) 20 (fun v os=>v= .tuple ⟨[At (Ny m+2),int 0]⟩/\os=xY m s) 8000 (st EL [int m,int s] (hp [])):=by
    rw[fV m hm2 hm32];exact gg (Wy ⟨rfl,rfl⟩ _ fun a ha=>by
     unfold nf at ha;rcases List.mem_append.1 ha with ha | ha
     ·rw[List.mem_replicate]at ha;omega
     ·simp only[Ul,bG,vK]at ha;omega) _
   refine Ak.mono (AX.Fh (BK yc.pf (by kernel_rfl) hv)) fun v H ⟨e,hq⟩=>?_
   subst e;have hq:H.get 24::H.get (Ny m)::H.get (Ny m+1)::((dq m++[Ny m+2]).map H.get)=xY m s:=hq;unfold xY at hq;rw[ABZ]at hq;simp only[Nh]at hq;obtain⟨g1,g2,g3,g4⟩:=hq;have gl:H.get (Ny m+2)=some (ND 24 (Ny m+1) m 0 false):=by
    have:=congrArg List.getLast? g4;simpa using this
   have g5:(dq m).map H.get++[some (ND 24 (Ny m+1) m 0 false)]=(nf m s).map (fun a=>some (.abs (.pack (.CJ ⟨a,0,[]⟩)) false))++[some (ND 24 (Ny m+1) m 0 false)]:=by
    rw[<-g4,<-gl];rfl
   refine o5 (d:=Ny m+2) (c:=24) (R:=Ny m) (t:=Ny m+1) (n:=m) (L:=(nf m s).map fun a=>⟨a,0,[]⟩) (zs:=dq m) hm2 hm32 (by rw[oB,UR]) (by rw[oB,UR,a8]) (gP m) gl g1 g2 g3 (aT _ _ _ (by rw[UR,a8]) g5) (.inl (by simp[Au,At])) fun H2 g=> .here ?_
   refine⟨[Ny m+2],by simp,fun b hb=>by rw[Q4]at hb;rw[hb];show 20+0<=_;unfold Ny;omega,rfl,rfl,fun j b o hb ho=>?_,fun j o hj=>(by cases hj)⟩;cases j with
   | zero=>cases hb;cases ho;exact⟨_,rfl,g⟩
   | succ j=>cases hb
  ·cases hx
 ·cases hx
theorem fH (L:List AS) (q:Option BP) (s o:Int) (dn:Bool) (i:Int) (Q:Bm):CU XV (Ax cV) [] Gp [20,21,22] 21 Q 400 (st Gp [At 20,int i] (lO L q s o dn))=(
 let g:=List.getD L i.toNat i0;let e:=AS.size g - ((AS.b g).length:Int);let d:AP:= .abs (Ct.pack (Pk.Bw L)) false;let c:AP:= .abs (Ct.pack (Pk.timer q)) false;let a:AP:= .cells [(At 21),(At 22),(int s),(int o),(.bool dn)] 0 false;let f:Prop:=Q (.tuple ⟨[(int 0),(int 3)]⟩) [some a,some d,some c];(bif decide (s > 0)then(bif dn then(Q (.tuple ⟨[(int 0),(int 13)]⟩) [some a,some d,some c])else(bif decide (i < 0)then f else(bif decide (i≥IntKind.wrap .i64 (s+2))then f else((Bool.rec (decide (i≥(L.length:Int))) true (decide (i < 0)))=(false))/\(Q (.tuple ⟨[(int e),(int 0)]⟩) [some a,some (.abs (Ct.pack (PL.nx { v:=DE e 0,nx:=Pk.Bw L,news:=[] })) false),some c]))))else(Q (.tuple ⟨[(int 0),(int 1)]⟩) [some a,some d,some c]))):=by kernel_rfl
theorem Xj:CY Tryz.prog AI Gp (Ai AI 20 [true] (CX 20 (HK fun m=>m.size - m.b.length))):=by
 refine Ek okV.all (by kernel_rfl) (by kernel_rfl) (n:=BD Gp) (by kernel_rfl) (fun _=>rfl) fun p rest os=>?_
 unfold HK;split
 ·rename_i d i;refine⟨BE (by kernel_rfl),fun objs hr=>?_⟩;obtain⟨hd,ho⟩:=NI d objs hr;refine⟨_,ho,Qh hd rfl ?_⟩;obtain⟨L,q,s,o,dn⟩:=d;refine(fH L q s o dn i _).mpr (Kc hd (fun h=>?_) (fun h h2=>?_) fun h h2=>⟨FO h2,?_⟩)
  ·rw[Vo h];exact⟨rfl,rfl⟩
  ·rw[TY h h2];exact⟨rfl,rfl⟩
  ·rw[Nj h h2];exact⟨rfl,rfl⟩
 ·trivial
def jR (args:AL) (objs:BN):GT:=match args,objs with
 | [.agg ⟨[.int .i64 k,.int .i64 q,.string a,.string b]⟩,.int .i64 s,.int .i64 o],[]=> .ask (L6 k q a b s o=true) (.ret ⟨.tuple ⟨[G6 q a (k==2) s o (Bu a b),int 0]⟩,[],[]⟩)
 | _,_=> .fail
def jo (args:AL) (objs:BN):GT:=match args,objs with
 | [.agg ⟨[.int .i64 k,.int .i64 q,.string a,.string b]⟩],[]=> .ask (DR k q a b=true) (.ret ⟨.tuple ⟨[Ao 20 (Bu a b),int 0]⟩,[],[.vec kB (E3 k q a b) false]⟩)
 | _,_=> .fail
def De (d:Ab) (i:Int):Int × Ab:=Ma d i Cn fun _=>false
def iT:Gk:=fun p rest os=>match p,rest,os with
 | .dev d,[.int .i64 i],[]=> .ask ((De d i).1=0) (.ret ⟨int 0,.dev (De d i).2,[]⟩)
 | _,_,_=> .fail
theorem cj:∀a o x,(jR a o).run=some x->(TX a o).run=some x:=by
 intro a o x hx;unfold jR at hx;unfold TX;split at hx
 ·simp only[GT.run]at hx ⊢;split at hx
  ·rename_i h;rw[h];exact hx
  ·cases hx
 ·cases hx
theorem dV:∀a o x,(jo a o).run=some x->(VV a o).run=some x:=by
 intro a o x hx;unfold jo at hx;unfold VV;split at hx
 ·simp only[GT.run]at hx ⊢;split at hx
  ·rename_i h;rw[h];exact hx
  ·cases hx
 ·cases hx
theorem dU:∀a o x,(CX 20 iT a o).run=some x->(CX 20 (TB Cn fun _=>false) a o).run=some x:=IU fun s rest os x hx=>by
 unfold iT at hx;unfold TB;split at hx
 ·rename_i d i;simp only[PT.gt,GT.run]at hx ⊢;split at hx
  ·rename_i h;show some _=some _;unfold De at hx h;rw[h];exact hx
  ·cases hx
 ·simp only[PT.gt,GT.run]at hx;cases hx
def Il (fn:FuncId) (i:Nat) (c:BT):Bool:=match c with
 | ⟨⟨f,_,_,.code (.seq (.region j _ _) _)::_,_,r,_,_⟩,cs,_⟩=> !r&&Nat.beq f fn&&Nat.beq cs.length 0&&Nat.beq j i
 | _=>false
def FU (d:Ab) (i:Int):Int:=IntKind.wrap .i64 (((CV d i).b.length:Int) - (CV d i).Ej)
def pG:Gk:=fun p rest os=>match p,rest,os with
 | .dev d,[.int .i64 i],[]=> .ask (d.down=false/\Ba d.BB i=false) (.ret ⟨DE (FU d i) 0,.dev d,[]⟩)
 | _,_,_=> .fail
theorem Vs:∀a o x,(CX 20 pG a o).run=some x->(CX 20 (HK fun m=>IntKind.wrap .i64 ((m.b.length:Int) - m.Ej)) a o).run=some x:=IU fun s rest os x hx=>by
 unfold pG at hx;unfold HK;split at hx
 ·rename_i d i;simp only[PT.gt,GT.run]at hx ⊢;split at hx
  ·rename_i h;rw[Nj h.1 h.2];exact hx
  ·cases hx
 ·simp only[PT.gt,GT.run]at hx;cases hx
def kF (x:Cm) (e:NQ):Prop:=(e.2.2.2.1=(e.2.2.2.1.toNat:Int)/\Lr x e.1 e.2.1 e.2.2.1 e.2.2.2.1.toNat e.2.2.2.2.1 e.2.2.2.2.2)/\El x e.1 e.2.1 e.2.2.1 e.2.2.2.1.toNat e.2.2.2.2.1 e.2.2.2.2.2=0
def fC (x:Cm) (e:NQ):Cm:=JO x e.1 e.2.1 e.2.2.1 e.2.2.2.1.toNat e.2.2.2.2.1 e.2.2.2.2.2
def PT.hint (w:Value):PT->PT
 | .fail=> .fail
 | .ret x=> .ask (x.v=w) (.ret ⟨w,x.nx,x.news⟩)
 | .test c a b=> .test c (a.hint w) (b.hint w)
 | .ask p a=> .ask p (a.hint w)
def Zv (w:Value) (q:Gk):Gk:=fun p rest os=>(q p rest os).hint w
theorem NS {w:Value}:∀{t:PT} {x:Vm},(t.hint w).gt.run=some x->t.gt.run=some x
 | .fail,_,h=>h
 | .ret y,x,h=>by
  simp only[PT.hint,PT.gt,GT.run]at h ⊢;split at h
  ·rename_i e;rw[e];exact h
  ·cases h
 | .test c a b,x,h=>by
  cases c
  ·exact NS (t:=b) h
  ·exact NS (t:=a) h
 | .ask p a,x,h=>by
  simp only[PT.hint,PT.gt,GT.run]at h ⊢;split at h
  ·rename_i hp;rw[MB hp];exact NS (t:=a) h
  ·cases h
theorem M0 (w:Value) (q:Gk):∀a o x,(CX 20 (Zv w q) a o).run=some x->(CX 20 q a o).run=some x:=IU fun _ _ _ _ hx=>NS hx
def ON (f:FuncId) (w:Value) (q:Gk):GA:=(f,Ai AI 20 [true] (CX 20 q),Cs AI 20 [true] (CX 20 (Zv w q)))
def lJ:Gk:=HK fun m=>m.size - m.b.length
def mJ:Gk:=fun p rest os=>match p,rest,os with
 | .dev d,[.int .i64 i],[]=> .ask (d.down=false/\Ba d.BB i=false) (.ret ⟨DE (Gw d i) 0,.dev d,[]⟩)
 | _,_,_=> .fail
theorem gw:∀a o x,(CX 20 mJ a o).run=some x->(CX 20 lJ a o).run=some x:=IU fun s rest os x hx=>by
 unfold mJ at hx;unfold lJ HK;split at hx
 ·rename_i d i;simp only[PT.gt,GT.run]at hx ⊢;split at hx
  ·rename_i h;rw[Nj h.1 h.2];exact hx
  ·cases hx
 ·simp only[PT.gt,GT.run]at hx;cases hx
end Go.AD
namespace Go.AD
inductive Qr (ops:Array Oper) (x:Nat):Nat->Prop where
 | one {o:Oper} {d:Nat} (h:ops[x]? = some o) (hd:d∈Fx o):Qr ops x d
 | more {i:Nat} {o:Oper} {d:Nat} (hi:Qr ops x i) (h:ops[i]? = some o) (hd:d∈Fx o):Qr ops x d
section
variable {X:Ctx} {μ:Ae} {H H':AA} {ops:Array Oper} {t:Tr Value} {n:Nat} {tm:BR} {D idx:AW} {x:Nat} {o:Oper} {rest:List PE} {G:List (Nat × Nat)} {Fact:Nat->Oper->Nat->Prop}
theorem gf (h:FM X μ H ops t n tm D (.op x o::rest) (x::idx) G Fact) {i:Nat} (hd:Qr ops x i):i∉x::idx:=by
 induction hd with
 | one hx hd=>
  obtain⟨⟨o1,h1,h2⟩,_,_⟩:=h.J2;rw[hx]at h1;cases h1
  exact h2 _ hd
 | more _ hi hd ih=>exact(h.V8 _ _ hi ih).2 _ hd
theorem aE:∀{l:AW},Wa ops l->∀i∈l,i < ops.size
 | [],_,_,h=>by cases h
 | j::l,h,i,hi=>by
  obtain⟨⟨o,h1,_⟩,_,h3⟩:=h;rcases List.mem_cons.1 hi with e | e
  ·subst e;exact(Array.getElem?_eq_some_iff.1 h1).1
  ·exact aE h3 i e
theorem bI (h:FM X μ H ops t n tm D (.op x o::rest) (x::idx) G Fact) (hc:∀i,i < ops.size->i≠x->Qr ops x i):idx=[]:=by
 cases idx with
 | nil=>rfl
 | cons j r=>
  obtain⟨_,h2,h3⟩:=h.J2;have hj:j≠x:=fun e=>h2 (by rw[e];exact nB ..)
  exact absurd (oo _ (nB ..)) (gf h (hc j (aE h3 j (nB ..)) hj))
theorem UH (h:EY X.P ops D (.op x o::rest)=true):x∉D:=by
 unfold EY at h;simp only[Dg,sd]at h;intro hx;have:=h.1.1.1;rw[Ef.2 hx]at this;cases this
theorem ni (h:FM X μ H ops t n tm D (.op x o::rest) [x] G Fact) (l:AW):FM X μ H' ops (TF t l) n tm D (.op x o::rest) [x] [] Fact:=by
 refine⟨h.stat,h.wf,h.Uv,h.J2,h.V8,h.ec,h.sz,fun u hu=>?_,fun i o' hi hD hx=>?_,h.eZ,dG,fun b hb=>(by cases hb)⟩
 ·unfold TF;rcases Jm id t l u with e | e
  ·rw[e];exact .Bv _
  ·rw[e];exact h.tmp u hu
 ·rw[Q4]at hx;subst hx;exact absurd hD (UH h.Uv)
def Vv (ops:Array Oper) (x:Nat) (o:Oper):Bool:=(List.range ops.size).all fun i=>Nat.beq i x||OX (Jx ops.toList o) i
theorem Vk (ho:ops[x]? = some o) (h:Vv ops x o=true):∀i,i < ops.size->i≠x->Qr ops x i:=by
 intro i hi hx;have h1:=List.all_eq_true.1 h i (List.mem_range.2 hi);simp only[vZ]at h1;rcases h1 with h1 | h1
 ·exact absurd (DN h1) hx
 ·have h2:=Ef.1 h1;unfold Jx at h2;exact Pg (Qr ops x) (fun j oj hj hs d hd=> .more hs (by rw[<-Wt];exact hj) hd) _ _ _ (fun j hj=> .one ho hj) (fun j hj=>by cases hj) i h2
def Qo:List B9->Bool
 | .Ee ops (.op x o::_)::k=>Vv ops x o&&C6 k
 | l=>C6 l
theorem jO {ks:FV} {g:AW} {f:Aj} {f':Frame} (h:Hh X μ H g f f') (hd:Qo f.todo=true):Hh X μ H' [] (Ir ks f) f':=by
 cases h with
 | plain fn t n tm todo todo' ds ds' r kd rd rd' ht hi hdd hr=>
  unfold Ir;simp only;split
  ·exact .plain _ _ _ _ _ _ _ _ _ _ _ _ (OT ht _) hi hdd hr
  ·exact .plain _ _ _ _ _ _ _ _ _ _ _ _ ht hi hdd hr
 | KA fn t n tm ops x o rest idx D G k k' ds ds' kd rd rd' ho hD hk hdd hr=>
  have hd:(Vv ops x o&&C6 k)=true:=hd;rw[Dg]at hd;have hn:=bI hD (Vk ho hd.1);subst hn;unfold Ir;simp only;split
  ·exact .KA fn _ n tm ops x o rest [] D [] k k' ds ds' kd rd rd' ho (ni hD _) hk hdd hr
  ·refine .KA fn _ n tm ops x o rest [] D [] k k' ds ds' kd rd rd' ho ⟨hD.stat,hD.wf,hD.Uv,hD.J2,hD.V8,hD.ec,hD.sz,hD.tmp,fun i o' hi hDi hx=>?_,hD.eZ,dG,fun b hb=>(by cases hb)⟩ hk hdd hr;rw[Q4]at hx;subst hx;exact absurd hDi (UH hD.Uv)
theorem bY {ks:FV} {g:AW} {l:List Aj} {l':List Frame} (h:Dv X μ H g l l') (hd:(l.all fun f=>Qo f.todo)=true):Dv X μ H' [] (l.map (Ir ks)) l':=by
 induction h with
 | nil=>exact .nil
 | cons hf _ ih=>
  simp only[lf,Dg]at hd;exact .cons (g:=[]) (gs:=[]) (jO hf hd.1) (ih hd.2)
theorem b7 {N:Nat} {ks:FV} {bs:AW} {c:BT} {Φ:Bz} (h1:C6 c.fr.todo=true) (h2:(c.cs.all fun f=>Qo f.todo)=true) (hr:A5 X N (F7 ks bs c) Φ):A5 X N c Φ:=by
 intro base W0 hb hok hplan cs0 μ fr cs W hm;refine hr base W0 hb hok hplan cs0 μ fr cs W ?_;obtain⟨hH,hlaid,g,gs,hfr,hcs,hnd⟩:=hm;exact⟨OD bs hH,hlaid,[],[],SY hfr h1,bY hcs h2,by simp⟩
theorem rO {ρ:Rn} {ν:Ae} (hρ:∀b i T,ρ b=some i->μ b=some T->ν i=some T) (h:FM X μ H ops t n tm D (.op x o::rest) [x] G Fact):FM X ν H' ops (t.Ym (Np ρ)) n tm D (.op x o::rest) [x] [] Fact:=by
 refine⟨h.stat,h.wf,h.Uv,h.J2,h.V8,h.ec,h.sz,fun u hu=>?_,fun i o' hi hD hx=>?_,h.eZ,dG,fun b hb=>(by cases hb)⟩
 ·have:=h.tmp u hu;unfold look at this ⊢;rw[Tr.Wh];cases hg:t.get u with
  | none=>exact .Bv _
  | some v=>rw[hg]at this;exact It hρ 8 _ _ this
 ·rw[Q4]at hx;subst hx;exact absurd hD (UH h.Uv)
def fY (ρ:Rn):Aj->Option Aj
 | ⟨fn,t,n,.Ee ops (.op x o::rest)::k,ds,r,kd,rd⟩=>bif Vv ops x o then(match P0 ρ k,ca ρ ds,lT ρ rd with
  | some k',some ds',some rd'=>some ⟨fn,t.Ym (Np ρ),n,.Ee ops (.op x o::rest)::k',ds',r,kd,rd'⟩
  | _,_,_=>none)else none
 | f=>Qv ρ none f
def To (ρ:Rn):List Aj->Option (List Aj)
 | []=>some []
 | f::r=>match fY ρ f,To ρ r with
  | some g,some l=>some (g::l)
  | _,_=>none
theorem ZE {ρ:Rn} {ν:Ae} (hρ:∀b i T,ρ b=some i->μ b=some T->ν i=some T) {g:AW} {l l1:List Aj} {l':List Frame} (h:To ρ l=some l1) (hr:Dv X μ H g l l'):Dv X ν H' [] l1 l':=by
 induction hr generalizing l1 with
 | nil=>cases h;exact .nil
 | cons hf _ ih=>
  simp only[To]at h;split at h
  ·rename_i f1 m e1 e2;cases h
   refine .cons (g:=[]) (gs:=[]) ?_ (ih e2);cases hf with
   | plain fn t n tm todo todo' ds ds' r kd rd rd' ht hi hd hr=>
    unfold fY at e1;split at e1
    ·rename_i heq;cases heq
     cases hi with
     | cons h1 _=>cases h1
    ·simp only[Qv]at e1;split at e1
     ·rename_i a b c h1 h2 h3;cases e1
      exact .plain _ _ _ _ _ _ _ _ _ _ _ _ (Rx hρ ht) (I5 hρ h1 hi) (JG hρ h2 hd) (KX hρ h3 hr)
     ·cases e1
   | KA fn t n tm ops x o rest idx D G k k' ds ds' kd rd rd' ho hD hk hd hr=>
    simp only[fY]at e1;cases hc:Vv ops x o
    ·simp only[hc,EB]at e1;cases e1
    ·simp only[hc,C8]at e1;have hn:=bI hD (Vk ho hc);subst hn;split at e1
     ·rename_i a b c h1 h2 h3;cases e1
      exact .KA fn _ n tm ops x o rest [] D [] _ k' _ ds' kd _ rd' ho (rO hρ hD) (I5 hρ h1 hk) (JG hρ h2 hd) (KX hρ h3 hr)
     ·cases e1
  ·cases h
end
def sP (N:Nat) (Av ids:AW) (live:AW) (c:BT):Option BT:=
 match Qv (Fw N ids) (some live) c.fr,To (Fw N ids) c.cs,RB (Fw N ids) c.H.m Av with
 | some fr,some cs,some m=>some ⟨fr,cs,⟨m,N+ids.length⟩⟩
 | _,_,_=>none
section
variable {X:Ctx} {N:Nat}
theorem de {M:Nat} (hMN:M<=N) {Av ids live:AW} {c c':BT} {Φ:Bz} (hl:(X.laid.all fun p=>Nat.blt p.1 N)=true) (h:sP N Av ids live c=some c') (hr:A5 X M c' Φ):A5 X M c Φ:=by
 intro base W0 hb hok hplan cs0 μ fr cs W hm;suffices hs:∃μ',JL X base W0 μ' c' fr cs W by
  obtain⟨μ',hm'⟩:=hs;exact hr base W0 hb hok hplan cs0 μ' fr cs W hm'
 obtain⟨hH,hlaid,g,gs,hfr,hcs,hnd⟩:=hm;unfold sP at h;split at h
 ·rename_i fr1 cs1 m1 e1 e2 e3;cases h
  let ν:Ae:=fun i=>(DF N ids i).bind μ
  have hν:∀b i T,Fw N ids b=some i->μ b=some T->ν i=some T:=by
   intro b i T h1 h2;show(DF N ids i).bind μ=_;rw[Fi h1];exact h2
  have hν':∀b i T,Fw N ids b=some i->ν i=some T->μ b=some T:=by
   intro b i T h1 h2;have h2:(DF N ids i).bind μ=some T:=h2;rw[Fi h1]at h2;exact h2
  have hlow:∀i,i < N->ν i=μ i:=by
   intro i hi;show(DF N ids i).bind μ=_;unfold DF;rw[MB hi];rfl
  refine⟨ν,⟨?_,?_,?_,?_,?_,hH.size,hH.below,hH.out,hH.os,?_,?_,hH.grow⟩,?_,[],[],?_,ZE hν e2 hcs,by simp⟩
  ·intro i o1 hi T hT;obtain⟨b,o,r1,r2,r3⟩:=B6 e3 i o1 hi;obtain⟨o',q1,q2⟩:=hH.obj b o r2 T (hν' _ _ _ r1 hT);exact⟨o',q1,Z9 hν r3 q2⟩
  ·intro i o1 hi hro T hT hv;obtain⟨b,o,r1,r2,r3⟩:=B6 e3 i o1 hi;exact hH.own b o r2 (by rw[<-(HN r3).1];exact hro) T (hν' _ _ _ r1 hT) (fun hw=>hv ((G3 r3 T).2 hw))
  ·intro i1 i2 o1 o2 h1 h2 T1 T2 t1 t2 v1 v2 hcc hrr;obtain⟨b1,p1,r1,r2,r3⟩:=B6 e3 i1 o1 h1;obtain⟨b2,p2,s1,s2,s3⟩:=B6 e3 i2 o2 h2;have:=hH.inj b1 b2 p1 p2 r2 s2 T1 T2 (hν' _ _ _ r1 t1) (hν' _ _ _ s1 t2) (fun hw=>v1 ((G3 r3 T1).2 hw)) (fun hw=>v2 ((G3 s3 T2).2 hw)) hcc (by rw[<-(HN r3).1,<-(HN s3).1];exact hrr);subst this;rw[r1]at s1;cases s1;rfl
  ·intro i hi;have hi:N+ids.length<=i:=hi;have hnone:DF N ids i=none:=by
    unfold DF;rw[JT (by omega),T6 (by omega)]
   constructor
   ·cases hg:(AA.mk m1 (N+ids.length)).get i with
    | none=>rfl
    | some o1=>
     obtain⟨b,o,r1,_⟩:=B6 e3 i o1 hg;rw[Fi r1]at hnone;cases hnone
   ·show(DF N ids i).bind μ=none;rw[hnone];rfl
  ·intro i T hT;have hT:(DF N ids i).bind μ=some T:=hT;cases hbk:DF N ids i with
   | none=>rw[hbk]at hT;cases hT
   | some b=>rw[hbk]at hT;exact hH.bound b T hT
  ·obtain⟨φ,q⟩:=hH.abs;refine⟨fun i=>match DF N ids i with | some b=>φ b | none=>fun _=>False,?_,?_⟩
   ·intro i a ro T hi hT;obtain⟨b,o,r1,r2,r3⟩:=B6 e3 i _ hi;obtain⟨this,hext⟩:=(HN r3).2.2 a ro rfl;subst this;simp only[Fi r1];obtain⟨w1,w2⟩:=q.rep b a ro T r2 (hν' _ _ _ r1 hT);exact⟨w1.closed _ hext,w2⟩
   ·intro i a ro T hi hT i2 o2 T2 hi2 hT2 hne;obtain⟨b,o,r1,r2,r3⟩:=B6 e3 i _ hi;obtain⟨this,hext⟩:=(HN r3).2.2 a ro rfl;subst this;obtain⟨b2,p2,s1,s2,s3⟩:=B6 e3 i2 _ hi2;simp only[Fi r1,Fi s1];obtain⟨u1,u2⟩:=q.DG b a ro T r2 (hν' _ _ _ r1 hT) b2 p2 T2 s2 (hν' _ _ _ s1 hT2) (by rintro rfl;rw[r1]at s1;cases s1;exact hne rfl);exact⟨fun hv2=>u1 (fun hw=>hv2 ((G3 s3 T2).2 hw)),fun ea=>u2 (by rw[<-(HN s3).2.1];exact ea)⟩
  ·intro b T hT;rw[hlow b (nI (hb b T hT) hMN)];exact hH.le b T hT
  ·intro gl hgl;obtain⟨T,h1,h2⟩:=hlaid gl hgl;have:gl < N:=by
    rw[AA9]at hgl;obtain⟨p,hp,hpe⟩:=hgl;have h3:=List.all_eq_true.1 hl p hp;rw[DN hpe];exact BE h3
   exact⟨T,by rw[hlow gl this];exact h1,h2⟩
  ·generalize c.fr=cf at e1 hfr;cases hfr with
   | plain fn t n tm todo todo' ds ds' r kd rd rd' ht hi hd hrr=>
    simp only[Qv]at e1;split at e1
    ·rename_i a b c h1 h2 h3;cases e1
     exact .plain _ _ _ _ _ _ _ _ _ _ _ _ (S6 hν ht live) (I5 hν h1 hi) (JG hν h2 hd) (KX hν h3 hrr)
    ·cases e1
   | drawn fn t n tm ops BJ idx D G k k' ds ds' kd rd rd' hD hk hd hrr=>
    simp only[Qv]at e1;split at e1
    ·rename_i a b c h1 h2 h3;exact absurd rfl (KK h1 _ _ _)
    ·cases e1
 ·cases h
end
def Stop.dL (X:Ctx) (ks:FV) (S:Stop) (c:BT):Option BT:=
 match FD X c with
 | some c1=>bif C6 c1.fr.todo&&(c1.cs.all fun f=>Qo f.todo)then
  (bif Nat.ble S.N (F7 ks (S.ids c1) c1).H.next&&(S.ids (F7 ks (S.ids c1) c1)).all (fun b=>Nat.blt b (F7 ks (S.ids c1) c1).H.next)then
   sP S.N (S.Xi++S.ids (F7 ks (S.ids c1) c1)) (S.ids (F7 ks (S.ids c1) c1)) S.live (F7 ks (S.ids c1) c1)else none)else none
 | none=>none
theorem V3 {X:Ctx} {S:Stop} {ks:FV} {M:Nat} (hM:M<=S.N) (hl:(X.laid.all fun p=>Nat.blt p.1 S.N)=true) {c c2:BT} {Φ:Bz} (hc:S.dL X ks c=some c2) (h:A5 X M c2 Φ):A5 X M c Φ:=by
 unfold Stop.dL at hc;split at hc
 ·rename_i c1 h1;cases hd:(C6 c1.fr.todo&&(c1.cs.all fun f=>Qo f.todo))
  ·simp only[hd,EB]at hc;cases hc
  ·simp only[hd,C8]at hc;simp only[Dg]at hd;cases hb:(Nat.ble S.N (F7 ks (S.ids c1) c1).H.next&&(S.ids (F7 ks (S.ids c1) c1)).all (fun b=>Nat.blt b (F7 ks (S.ids c1) c1).H.next))
   ·simp only[hb,EB]at hc;cases hc
   ·simp only[hb,C8]at hc;have hr:=de (X:=X) hM hl hc h;exact A5.bind (Reach.Uf ((R6.step h1).reach (Φ:=fun c'=>c'=c1) rfl)) fun c' e=>e ▸ b7 hd.1 hd.2 hr
 ·cases hc
def pW (X:Ctx) (pf:Pf) (hs:List (Nat × Value)) (f:FuncId) (ids:AW) (S:Stop) (h1:BT->Bool) (S2:Stop) (h2:BT->Bool) (ks:FV) (Q:Bm) (R R2:Bz) (n:Nat):Bz:=
 Nat.rec (motive:=fun _=>Bz) (fun _=>False) (fun _ ih c=>match FC X f c with
  | some (v,H)=>Q v ((ids++Au 4 v).map H.get)
  | none=>bif h1 c then(match S.dL X ks c with
   | some c2=>R c2
   | none=>False)
   else bif h2 c then(match S2.dL X ks c with
    | some c2=>R2 c2
    | none=>False)
   else match VL X c with
    | some (b,ct,cf)=>bif b then ih cf else(ih ct/\ih cf)
    | none=>Oe X pf hs c ih) n
theorem tQ {X:Ctx} {pf:Pf} (hpf:HO X pf) {hs:List (Nat × Value)} {f:FuncId} {ids:AW} {M:Nat} {S S2:Stop} {h1 h2:BT->Bool} {ks:FV} (hl:(X.laid.all fun p=>Nat.blt p.1 M)=true) (hN:M<=S.N) (hN2:M<=S2.N) {Q:Bm} {R R2:Bz} {Q':Ih}
 (hQ:∀v H,Q v ((ids++Au 4 v).map H.get)->Q' v H) (hR:∀c,R c->AX X M f Q' c) (hR2:∀c,R2 c->AX X M f Q' c):∀(n:Nat) (c:BT),pW X pf hs f ids S h1 S2 h2 ks Q R R2 n c->AX X M f Q' c:=by
 have up:∀N,M<=N->(X.laid.all fun p=>Nat.blt p.1 N)=true:=fun N hMN=>by
  rw[AAW]at hl ⊢;intro p hp;exact Ez (wQ (BE (hl p hp)) hMN)
 intro n;induction n with
 | zero=>intro c h;cases h
 | succ n ih=>
  intro c h;have h:(match FC X f c with
   | some (v,H)=>Q v ((ids++Au 4 v).map H.get)
   | none=>bif h1 c then(match S.dL X ks c with
    | some c2=>R c2
    | none=>False)
    else bif h2 c then(match S2.dL X ks c with
     | some c2=>R2 c2
     | none=>False)
    else match VL X c with
     | some (b0,ct,cf)=>bif b0 then pW X pf hs f ids S h1 S2 h2 ks Q R R2 n cf else(pW X pf hs f ids S h1 S2 h2 ks Q R R2 n ct/\pW X pf hs f ids S h1 S2 h2 ks Q R R2 n cf)
     | none=>Oe X pf hs c (pW X pf hs f ids S h1 S2 h2 ks Q R R2 n)):=h
  split at h
  ·rename_i v H e;exact A5.here ⟨v,H,e,hQ v H h⟩
  ·cases hs:h1 c
   ·simp only[hs,EB]at h;cases hs2:h2 c
    ·simp only[hs2,EB]at h;split at h
     ·rename_i b0 ct cf hq;cases hb:b0
      ·simp only[hb,EB]at h;exact A5.bind (Reach.Uf (GZ (Φ:=fun c'=>pW X pf _ f ids S h1 S2 h2 ks Q R R2 n c') hq (fun _=>h.1) h.2)) fun c' hc=>ih c' hc
      ·simp only[hb,C8]at h;exact A5.bind (Reach.Uf (GZ (Φ:=fun c'=>pW X pf _ f ids S h1 S2 h2 ks Q R R2 n c') hq (fun e=>by rw[hb]at e;cases e) h)) fun c' hc=>ih c' hc
     ·exact A5.bind (Reach.Uf (KD hpf (KS h))) fun c' hc=>ih c' hc
    ·simp only[hs2,C8]at h;split at h
     ·rename_i c2 hc;exact V3 (X:=X) (S:=S2) hN2 (up _ hN2) hc (hR2 c2 h)
     ·cases h
   ·simp only[hs,C8]at h;split at h
    ·rename_i c2 hc;exact V3 (X:=X) (S:=S) hN (up _ hN) hc (hR c2 h)
    ·cases h
end Go.AD
namespace Go.AD
open Go.Proofs
section
variable {base:Env} {W0 W:World} {μ:Ae} {H:AA}
theorem kq (h:AJ base W0 μ H W) {r a s:Nat} {S:List (Aw)} {l:Aw} (hs:S[s]? = some l) (g2:H.get r=some (.vec [.tok] (GL a S) false)) (g4:H.get a=some (.abs (.mem Ah (S.map some)) false)) (ha:∃T,μ a=some T):
 ∃μ2,μ.le μ2/\AJ base W0 μ2 ((H.X3 a s Ah (S.map some) l).put r (.vec [.tok] ((GL a S).set s (Ao H.next l.length)) false)) W/\∃T,μ2 H.next=some T:=by
 obtain⟨T,hT⟩:=ha;obtain⟨M,h1,h2⟩:=h.qK (k:=Ah) (a:=a) (j:=s) (L:=S.map some) (l:=l) g4 hT (by rw[Sy,hs];rfl);have hra:r≠a:=by rintro rfl;rw[g2]at g4;cases g4
 have hrl:=h.lt g2;have hle:μ.le (μ.ext H.next M):=Ae.Cc M (h.fresh H.next (GO _)).2;exact⟨_,hle,h1.NV (b:=r) (k:=[.tok]) (x:=GL a S) (x':=(GL a S).set s (Ao H.next l.length)) (ro:=false) (by rw[Iz,JT (by omega),JT hra];exact g2) (by rw[SB]) (fun w hw=>cX hs (fun n c w hv=>h2 n c w hv) w hw),M,Ae.Af _ _ _⟩
theorem eU (h:AJ base W0 μ H W) {r2 a4:Nat} (hra:r2≠a4) {S:List (Aw)} {s w1:Nat} {l1:Aw} (hs:s < S.length) (h24:H.get a4=some (.abs (.mem Ah (Ip S s)) false)) (hk:∃T,μ a4=some T) (hw:H.get w1=some (.vec Ah l1 false)) (hkw:∃T,μ w1=some T)
 (h22:H.get r2=some (.vec [.tok] ((GL a4 S).set s (Ao w1 l1.length)) false)):
 ∃μ2 H2,μ.le μ2/\AJ base W0 μ2 H2 W/\(∃T,μ2 H.next=some T)/\H2.next=H.next+1/\H2.get H.next=some (.abs (.mem Ah ((S.set s l1).map some)) false)/\H2.get r2=some (.vec [.tok] (GL H.next (S.set s l1)) false)/\∀z,z≠H.next->z≠r2->z≠w1->z≠a4->H2.get z=H.get z:=by
 obtain⟨T,hT⟩:=hk;obtain⟨M,hM⟩:=hkw;have h22l:=h.lt h22;have hw1l:=h.lt hw;have hw22:(r2:Nat)≠w1:=by rintro rfl;rw[h22]at hw;cases hw
 obtain⟨T2,h2,c1,c2⟩:=h.qI (a:=a4) (z:=w1) (j:=s) (k:=Ah) (by decide) (C:=S.set s l1) h24 hT hw hM (by rw[Q6,MB rfl,MB hs]) id (fun i m hi hm=>by
  rw[Q6,JT (gi hi)]at hm;show(Ip S s)[i]? = _;unfold Ip;rw[Q6,JT (gi hi),Sy,hm];rfl) (fun i i' _ _ _ _ e=>e)
 have hle:μ.le (μ.ext H.next T2):=Ae.Cc T2 (h.fresh H.next (GO _)).2;have g22:=(Jv (H:=H) (a:=a4) (z:=w1) (j:=s) (k:=Ah) (L2:=((S.set s l1).map some).set s none) (l:=l1) r2);have hfull:(((S.set s l1).map some).set s none).set s (some l1)=(S.set s l1).map some:=by
  rw[AAb];have:((S.set s l1).map some)[s]? = some (some l1):=by rw[Sy,Q6,MB rfl,MB hs];rfl
  obtain⟨q1,q2⟩:=List.getElem?_eq_some_iff.1 this;rw[<-q2,yp]
 rw[hfull]at g22;have gAll:=fun z=>(Jv (H:=H) (a:=a4) (z:=w1) (j:=s) (k:=Ah) (L2:=((S.set s l1).map some).set s none) (l:=l1) z)
 rw[hfull]at gAll;have h3:=h2.NV (b:=r2) (k:=[.tok]) (x:=(GL a4 S).set s (Ao w1 l1.length)) (x':=GL H.next (S.set s l1)) (ro:=false) (by rw[gAll,JT (by omega),JT hw22,JT hra];exact h22) (by rw[DS,SB,SB,DS]) (fun w hw=>by
  rw[D9]at hw ⊢;refine Am.ah _ _ _ (by rw[DS,SB,SB,DS]) (fun i v v' e1 e2 u hu=>?_) hw;rw[M7]at e2;rw[Q6]at e1 e2
  by_cases he:s=i
  ·subst he;rw[MB rfl]at e1 e2;rw[MB hs]at e2;rw[MB (by rw[DS];exact hs)]at e1;cases e1;cases e2
   exact c2 _ _ _ hu
  ·rw[JT he]at e1 e2;rw[M7]at e1;cases hS:S[i]? with
   | none=>rw[hS]at e1;cases e1
   | some l=>
    rw[hS]at e1 e2;cases e1;cases e2
    exact c1 i _ _ _ (gi he) (by rw[SB];exact(List.getElem?_eq_some_iff.1 hS).1) hu)
 refine⟨_,_,hle,h3,⟨T2,Ae.Af _ _ _⟩,rfl,?_,?_,fun z z1 z2 z3 z4=>?_⟩
 ·rw[AA.AU,JT (by omega),gAll,MB rfl]
 ·rw[AA.AU,MB rfl]
 ·rw[AA.AU,JT z2,gAll,JT z1,JT z3,JT z4]
theorem ji (h:AJ base W0 μ H W) {t m r y a b:Nat} (hnd:[t,m,r,y,a,b].Nodup) (hd:∀z∈[t,m,r,y,a,b],∃T,μ z=some T) {x:Cm} {s w1:Nat} {l1:Aw} (hs:s < x.AR.length) (hw:H.get w1=some (.vec Ah l1 false)) (hkw:∃T,μ w1=some T) (hw1:w1∉[t,m,r,y,a,b])
 (g0:H.get t=some (.cells [At m,Ao r x.AR.length] 0 false)) (g1:H.get m=some (.cells [.bool true,Ao y x.keys.length] 0 false)) (g2:H.get r=some (.vec [.tok] ((GL a x.AR).set s (Ao w1 l1.length)) false)) (g3:H.get y=some (.vec EV (Df b x.keys) false))
 (g4:H.get a=some (.abs (.mem Ah (Ip x.AR s)) false)) (g5:H.get b=some (.abs (.mem Ah (DY x.keys)) false)):
 ∃μ2 H2,μ.le μ2/\AJ base W0 μ2 H2 W/\H2.get t=some (.abs (.pack (.idx ⟨x.keys,x.AR.set s l1⟩)) false)/\∀z,z∉[t,m,r,y,a,b]->z≠w1->z≠H.next->H2.get z=H.get z:=by
 have l0:=h.lt g0;have l1':=h.lt g1;have l2:=h.lt g2;have l3:=h.lt g3;have l5:=h.lt g5;have hn:=hnd;simp only[lW,Ul,bG,vK,AAq,dG,iy]at hn;obtain⟨⟨n1,n2,n3,n4,n5⟩,⟨n6,n7,n8,n9⟩,⟨n10,n11,n12⟩,⟨n13,n14⟩,n15,_⟩:=hn;have hw2:=hw1;simp only[Ul,bG,vK,AAq]at hw2;obtain⟨w1a,w1b,w1c,w1d,w1e,w1f⟩:=hw2;obtain⟨μ2,H2,k1,k2,k3,k4,k5,k6,k7⟩:=eU h n11 hs g4 (hd a (by simp)) hw hkw g2;have hI:qP t m r y H.next b ⟨x.keys,x.AR.set s l1⟩ H2:=by
  refine⟨?_,?_,?_,k6,?_,k5,?_⟩
  ·simp only[lW,Ul,bG,vK,AAq,dG,iy];refine⟨⟨n1,n2,n3,by omega,n5⟩,⟨n6,n7,by omega,n9⟩,⟨n10,by omega,n12⟩,⟨by omega,n14⟩,by omega,id⟩
  ·rw[k7 t (by omega) n2 (gi w1a) n4,g0,SB]
  ·rw[k7 m (by omega) n6 (gi w1b) n8,g1]
  ·rw[k7 y (by omega) (gi n10) (gi w1d) n13,g3]
  ·rw[k7 b (by omega) (gi n12) (gi w1f) (gi n15),g5]
 have hd2:∀z∈[t,m,r,y,H.next,b],∃T,μ2 z=some T:=by
  intro z hz
  by_cases e:z=H.next
  ·rw[e];exact k3
  ·obtain⟨T,hT⟩:=hd z (by simp at hz ⊢;omega);exact⟨T,k1 z T hT⟩
 have r1:=gI k2 hI hd2;have hS:=E2 (s:= .idx ⟨x.keys,x.AR.set s l1⟩) (H:=H2) hI.nd;refine⟨μ2,_,k1,r1,hS.root t rfl,fun z z1 z2 z3=>?_⟩;simp only[Ul,bG,vK,AAq]at z1;obtain⟨z1a,z1b,z1c,z1d,z1e,z1f⟩:=z1;rw[hS.GK z (by simp only[Ul,bG,vK,AAq];exact⟨z1a,z1b,z1c,z1d,z3,z1f⟩),k7 z z3 z1c z2 z1e]
end
end Go.AD
namespace Go.Proofs
open Go.Shelf Go.RowKit
def Tryz.L0:Go.Shelf.Ren:=⟨fun | 105=>49 | 212=>99 | 99=>100 | 165=>101 | 166=>102 | 170=>103 | 169=>104 | 263=>169 | 264=>170 | 206=>171 | 240=>172 | 241=>173 | 276=>210 | 277=>211 | n=>n,fun | 9=>9 | 3=>3 | 4=>4 | 20=>20 | 0=>0 | 46=>161 | 109=>162 | 5=>5 | 72=>167 | 76=>171 | 51=>125 | 146=>238 | 53=>181 | 148=>240 | 70=>165 | 37=>41 | 75=>170 | 127=>242 | 164=>285 | 80=>173 | n=>n,fun | n=>n⟩
theorem Tryz.Jo:Go.Proofs.Lays.n105 Tryz.prog Tryz.L0:={
 mixed:=by kernel_rfl
 f99:=Tryz.func100.trans (congrArg some (by kernel_rfl))
 f105:=Tryz.func49.trans (congrArg some (by kernel_rfl))
 f165:=Tryz.func101.trans (congrArg some (by kernel_rfl))
 f166:=Tryz.func102.trans (congrArg some (by kernel_rfl))
 f169:=Tryz.func104.trans (congrArg some (by kernel_rfl))
 f170:=Tryz.func103.trans (congrArg some (by kernel_rfl))
 f206:=Tryz.func171.trans (congrArg some (by kernel_rfl))
 f212:=Tryz.func99.trans (congrArg some (by kernel_rfl))
 f240:=Tryz.func172.trans (congrArg some (by kernel_rfl))
 f241:=Tryz.func173.trans (congrArg some (by kernel_rfl))
 f263:=Tryz.func169.trans (congrArg some (by kernel_rfl))
 f264:=Tryz.func170.trans (congrArg some (by kernel_rfl))
 f276:=Tryz.func210.trans (congrArg some (by kernel_rfl))
 f277:=Tryz.func211.trans (congrArg some (by kernel_rfl))
 t0:=Tryz.underlying0
 a0:=Tryz.isAgg0
 z0:=Tryz.sizeOf0
 v0:=Tryz.zeroValue0
 t3:=Tryz.underlying3
 a3:=Tryz.isAgg3
 z3:=Tryz.sizeOf3
 v3:=Tryz.zeroValue3
 t4:=Tryz.underlying4
 a4:=Tryz.isAgg4
 z4:=Tryz.sizeOf4
 v4:=Tryz.zeroValue4
 t5:=Tryz.underlying5
 a5:=Tryz.isAgg5
 z5:=Tryz.sizeOf5
 v5:=Tryz.zeroValue5
 t9:=Tryz.underlying9
 a9:=Tryz.isAgg9
 z9:=Tryz.sizeOf9
 v9:=Tryz.zeroValue9
 t20:=Tryz.underlying20
 a20:=Tryz.isAgg20
 z20:=Tryz.sizeOf20
 v20:=Tryz.zeroValue20
 t37:=Tryz.underlying41
 a37:=Tryz.isAgg41
 z37:=Tryz.sizeOf41
 v37:=Tryz.zeroValue41
 t46:=Tryz.underlying161
 a46:=Tryz.isAgg161
 z46:=Tryz.sizeOf161
 v46:=Tryz.zeroValue161
 t51:=Tryz.underlying125
 a51:=Tryz.isAgg125
 z51:=Tryz.sizeOf125
 v51:=Tryz.zeroValue125
 t53:=Tryz.underlying181
 a53:=Tryz.isAgg181
 z53:=Tryz.sizeOf181
 v53:=Tryz.zeroValue181
 t70:=Tryz.underlying165
 a70:=Tryz.isAgg165
 z70:=Tryz.sizeOf165
 v70:=Tryz.zeroValue165
 t72:=Tryz.underlying167
 a72:=Tryz.isAgg167
 z72:=Tryz.sizeOf167
 v72:=Tryz.zeroValue167
 t75:=Tryz.underlying170
 a75:=Tryz.isAgg170
 z75:=Tryz.sizeOf170
 v75:=Tryz.zeroValue170
 t76:=Tryz.underlying171
 a76:=Tryz.isAgg171
 z76:=Tryz.sizeOf171
 v76:=Tryz.zeroValue171
 t109:=Tryz.underlying162
 a109:=Tryz.isAgg162
 z109:=Tryz.sizeOf162
 v109:=Tryz.zeroValue162
 t127:=Tryz.underlying242
 a127:=Tryz.isAgg242
 z127:=Tryz.sizeOf242
 v127:=Tryz.zeroValue242
 t146:=Tryz.underlying238
 a146:=Tryz.isAgg238
 z146:=Tryz.sizeOf238
 v146:=Tryz.zeroValue238
 t148:=Tryz.underlying240
 a148:=Tryz.isAgg240
 z148:=Tryz.sizeOf240
 v148:=Tryz.zeroValue240
 t164:=Tryz.underlying285
 a164:=Tryz.isAgg285
 z164:=Tryz.sizeOf285
 v164:=Tryz.zeroValue285 }
theorem Tryz.extra:Builder.Extra Tryz.prog Tryz.L0:={
 sizeBuilder:=by kernel_rfl
 liesBuilder:=by kernel_rfl
 t5:=Tryz.Jo.t5
 a5:=Tryz.Jo.a5
 z5:=Tryz.Jo.z5
 v5:=Tryz.Jo.v5
 infoByte:=by kernel_rfl
 cellsByte:=by kernel_rfl
 sizeByte:=by kernel_rfl
 neB5:=by decide }
end Go.Proofs
namespace Go.AD
open Go.Proofs
theorem qb:CY Tryz.prog AI LQ L3:=XY Tryz.Jo Tryz.extra (by kernel_rfl) (uY (by kernel_rfl))
theorem qU:Xf L3 Ot:=fun _ _ hX _ _ _ h=>We hX h
def cMr:List GA:=[(LQ,L3,Ot)]
theorem AAA:Ci cMr:= .other qb qU .nil
abbrev XMr:Ctx:=Bp Tryz.prog AI (Cv cMr)
def cfV (n z r w k v p:Int):Value:= .agg ⟨[int n,int z,int r,int w,int k,int v,int p]⟩
def Zn (l:List UInt8):As:={ data:={ toList:=l } }
def AAB (m:Int) (K:As->Prop):Prop:=bif m==5 then K (Zn [45])else bif m==4 then K (Zn [107,50])else bif m==3 then K (Zn [107,49])else bif m==2 then K (Zn [99])else bif m==1 then K (Zn [98])else bif m==0 then K (Zn [97])else False
def tZ (b:Int):As:={ data:={ toList:=List.map (fun n=>UInt8.ofNat (Int.toNat n)) [IntKind.wrap .u8 (65+Int.tmod b 26)] } }
def YD (c v:Int):Int:=Int.tmod (IntKind.wrap .i64 c) (IntKind.wrap .i64 (v+1))
def Zp (b c v:Int):As:={ data:={ toList:=Go.Lib.repeatL (Array.toList (ByteArray.data (tZ b))) (Int.toNat (YD c v)) } }
theorem wc (a b c n z r w k v p q:Int) (Q:Bm):CU XMr (Ax cMr) [] Aq [] 20 Q 300 (st Aq [.agg ⟨[.int .u8 a,.int .u8 b,.int .u8 c]⟩,cfV n z r w k v p,int q] (hp []))=
 AAB (Int.tmod b 6) (fun ky=>bif Int.tmod a 8==5 then Q (R9 2 q ky (Zn [])) []else bif decide (IntKind.wrap .i64 (v+1)≠0)then(0<=YD c v/\YD c v<=9223372036854775807/\ByteArray.size (tZ b) * Int.toNat (YD c v)<=140737488355328)/\Q (R9 1 q ky (Zp b c v)) []else False):=by kernel_rfl
def F0 (b:Int):As:=if b % 6=5 then Zn [45]else if b % 6=4 then Zn [107,50]else if b % 6=3 then Zn [107,49]else if b % 6=2 then Zn [99]else if b % 6=1 then Zn [98]else Zn [97]
def iJ (a:Int):Nat:=bif a % 8==5 then 2 else 1
def V1 (a b c v:Int):As:=bif a % 8==5 then Zn []else Zp b c v
structure Va (a b c v:Int):Prop where
 a0:0<=a
 b0:0<=b
 c0:0<=c
 c1:c < 256
 v0:0<=v
 v1:v<=1000
theorem gB (b:Int):(tZ b).size=1:=rfl
theorem jm {a b c v:Int} (h:Va a b c v):0<=YD c v/\YD c v<=v:=by
 obtain⟨a0,b0,c0,c1,v0,v1⟩:=h;unfold YD;rw[wrap64 (by omega) (by omega),wrap64 (by omega) (by omega),AAO c0];have h1:=Int.emod_nonneg c (show v+1≠0 by omega);have h2:=Int.emod_lt_of_pos c (show 0 < v+1 by omega);omega
def mrG (args:AL) (objs:BN):GT:=match args,objs with
 | [.agg ⟨[.int .u8 a,.int .u8 b,.int .u8 c]⟩,.agg ⟨[.int .i64 _,.int .i64 _,.int .i64 _,.int .i64 _,.int .i64 _,.int .i64 v,.int .i64 _]⟩,.int .i64 q],[]=> .ask (Va a b c v) (.ret ⟨R9 (iJ a) q (F0 b) (V1 a b c v),[],[]⟩)
 | _,_=> .fail
theorem rq {b:Int} (hb:0<=b) {K:As->Prop} (h:K (F0 b)):AAB (Int.tmod b 6) K:=by
 unfold F0 at h;rw[AAO hb];have h1:=Int.emod_nonneg b (show(6:Int)≠0 by decide);have h2:=Int.emod_lt_of_pos b (show(0:Int) < 6 by decide);generalize b % 6=m at *;rcases(show m=0∨m=1∨m=2∨m=3∨m=4∨m=5 by omega)with rfl | rfl | rfl | rfl | rfl | rfl<;>exact h
theorem xS:CY Tryz.prog AI Aq (Ai AI 20 [] mrG):=by
 refine BF AAA.all (by kernel_rfl) (n:=BD Aq) (by kernel_rfl) (by kernel_rfl) fun argsc objs x hx hro=>?_
 clear hro;unfold mrG at hx;split at hx
 ·rename_i a b c n z r w k v p q;simp only[GT.run]at hx;split at hx
  ·rename_i h;cases hx
   obtain⟨l0,l1⟩:=jm h;have v0:=h.v0;have v1:=h.v1;have hv:CU XMr (Ax cMr) [] Aq [] 20 (fun w _=>w=R9 (iJ a) q (F0 b) (V1 a b c v)) 300 (st Aq [.agg ⟨[.int .u8 a,.int .u8 b,.int .u8 c]⟩,cfV n z r w k v p,int q] (hp [])):=by
    rw[wc];refine rq h.b0 ?_;rw[AAO h.a0];unfold iJ V1;cases a % 8==5
    ·exact AZ rfl (AB (KE (by rw[wrap64 (by omega) (by omega)];omega)) ⟨⟨l0,by omega,by rw[gB];omega⟩,rfl⟩)
    ·exact AB rfl rfl
   exact⟨BE (by kernel_rfl),Ak.mono (AX.Fh (BK AAA.pf (by kernel_rfl) hv)) fun v H e=>by have e:v=_:=e;subst e;exact Ch rfl⟩
  ·cases hx
 ·cases hx
structure GP where
 n:Int
 z:Int
 r:Int
 w:Int
 k:Int
 v:Int
 p:Int
def cfA (c:GP):Value:=cfV c.n c.z c.r c.w c.k c.v c.p
def zP (a b c d e f g:Nat):GP:=⟨(2+a % 2+2+e % 5:Nat),(16+(16+(2+b % 5)+c % 24)+f:Nat),(2+a % 2:Nat),(2 * (16+(2+b % 5)+c % 24+16)+g:Nat),(2+b % 5:Nat),(c % 24:Nat),(1+d % 2:Nat)⟩
theorem mj (a b c d e f g:Int) (Q:Bm):CU X0 Cz [] CW [] 20 Q 300 (st CW [.agg ⟨[.int .u8 a,.int .u8 b,.int .u8 c,.int .u8 d,.int .u8 e,.int .u8 f,.int .u8 g]⟩] (hp []))= 
 Q (.agg ⟨[int (IntKind.wrap .i64 (IntKind.wrap .i64 (IntKind.wrap .i64 (2+IntKind.wrap .i64 (Int.tmod a 2))+2)+IntKind.wrap .i64 (Int.tmod e 5))),int (IntKind.wrap .i64 (IntKind.wrap .i64 (16+IntKind.wrap .i64 (IntKind.wrap .i64 (16+IntKind.wrap .i64 (2+IntKind.wrap .i64 (Int.tmod b 5)))+IntKind.wrap .i64 (Int.tmod c 24)))+IntKind.wrap .i64 f)),int (IntKind.wrap .i64 (2+IntKind.wrap .i64 (Int.tmod a 2))),int (IntKind.wrap .i64 (IntKind.wrap .i64 (2 * IntKind.wrap .i64 (IntKind.wrap .i64 (IntKind.wrap .i64 (16+IntKind.wrap .i64 (2+IntKind.wrap .i64 (Int.tmod b 5)))+IntKind.wrap .i64 (Int.tmod c 24))+16))+IntKind.wrap .i64 g)),int (IntKind.wrap .i64 (2+IntKind.wrap .i64 (Int.tmod b 5))),int (IntKind.wrap .i64 (Int.tmod c 24)),int (IntKind.wrap .i64 (1+IntKind.wrap .i64 (Int.tmod d 2)))]⟩) []:=by kernel_rfl
theorem wrapN {x:Int} {n:Nat} (h:x=(n:Int)) (hn:n < 1000000):IntKind.wrap .i64 x=(n:Int):=by rw[h,wrap64 (by omega) (by omega)]
theorem zh (a:Nat) (m:Nat):Int.tmod (a:Int) (m:Int)=((a % m:Nat):Int):=by rw[AAO (by omega)];exact(Int.natCast_emod a m).symm
theorem lC (a m:Nat) (hm:m<=1000) (h0:0 < m):IntKind.wrap .i64 (Int.tmod (a:Int) (m:Int))=((a % m:Nat):Int):=by
 have:=AAd a h0;exact wrapN (zh a m) (by omega)
def smG (args:AL) (objs:BN):GT:=match args,objs with
 | [.agg ⟨[.int .u8 a,.int .u8 b,.int .u8 c,.int .u8 d,.int .u8 e,.int .u8 f,.int .u8 g]⟩],[]=> .ask ((0<=a/\0<=b/\0<=c/\0<=d/\0<=e)/\(0<=f/\f < 256)/\0<=g/\g < 256) (.ret ⟨cfA (zP a.toNat b.toNat c.toNat d.toNat e.toNat f.toNat g.toNat),[],[]⟩)
 | _,_=> .fail
theorem xv:CY Tryz.prog AI CW (Ai AI 20 [] smG):=by
 refine BF (CO.nil _ _) (by kernel_rfl) (n:=BD CW) (by kernel_rfl) (by kernel_rfl) fun argsc objs x hx hro=>?_
 clear hro;unfold smG at hx;split at hx
 ·rename_i a b c d e f g;simp only[GT.run]at hx;split at hx
  ·rename_i h;cases hx
   obtain⟨⟨a0,b0,c0,d0,e0⟩,⟨f0,f1⟩,g0,g1⟩:=h;obtain⟨a,rfl⟩:=jc a0;obtain⟨b,rfl⟩:=jc b0;obtain⟨c,rfl⟩:=jc c0;obtain⟨d,rfl⟩:=jc d0;obtain⟨e,rfl⟩:=jc e0;obtain⟨f,rfl⟩:=jc f0;obtain⟨g,rfl⟩:=jc g0;have hv:CU X0 Cz [] CW [] 20 (fun v _=>v=cfA (zP a b c d e f g)) 300 (st CW [.agg ⟨[.int .u8 a,.int .u8 b,.int .u8 c,.int .u8 d,.int .u8 e,.int .u8 f,.int .u8 g]⟩] (hp [])):=by
    rw[mj];have m1:=lC a 2 (by decide) (by decide);have m2:=lC e 5 (by decide) (by decide);have m3:=lC b 5 (by decide) (by decide);have m4:=lC c 24 (by decide) (by decide);have m5:=lC d 2 (by decide) (by decide);have r1:=AAd a (show 0 < 2 by decide);have r2:=AAd e (show 0 < 5 by decide);have r3:=AAd b (show 0 < 5 by decide);have r4:=AAd c (show 0 < 24 by decide);have r5:=AAd d (show 0 < 2 by decide);rw[show((2:Nat):Int)=2 from rfl]at m1 m5;rw[show((5:Nat):Int)=5 from rfl]at m2 m3;rw[show((24:Nat):Int)=24 from rfl]at m4;have w1:=wrapN (n:=f) rfl (by omega);have w2:=wrapN (n:=g) rfl (by omega);rw[m1,m2,m3,m4,m5,w1,w2];unfold cfA cfV zP;simp only;generalize a % 2=a at *;generalize e % 5=e at *;generalize b % 5=b at *;generalize c % 24=c at *;generalize d % 2=d at *;have h1:=wrapN (x:=2+(a:Int)) (n:=2+a) (by omega) (by omega);have h2:=wrapN (x:=2+(b:Int)) (n:=2+b) (by omega) (by omega);have h3:=wrapN (x:=1+(d:Int)) (n:=1+d) (by omega) (by omega);rw[h1,h2,h3];have h4:=wrapN (x:=((2+a:Nat):Int)+2) (n:=2+a+2) (by omega) (by omega);have h5:=wrapN (x:=16+((2+b:Nat):Int)) (n:=16+(2+b)) (by omega) (by omega);rw[h4,h5];have h6:=wrapN (x:=((2+a+2:Nat):Int)+(e:Int)) (n:=2+a+2+e) (by omega) (by omega);have h7:=wrapN (x:=((16+(2+b):Nat):Int)+(c:Int)) (n:=16+(2+b)+c) (by omega) (by omega);rw[h6,h7];have h8:=wrapN (x:=16+((16+(2+b)+c:Nat):Int)) (n:=16+(16+(2+b)+c)) (by omega) (by omega);have h9:=wrapN (x:=((16+(2+b)+c:Nat):Int)+16) (n:=16+(2+b)+c+16) (by omega) (by omega);rw[h8,h9];have i1:=wrapN (x:=((16+(16+(2+b)+c):Nat):Int)+(f:Int)) (n:=16+(16+(2+b)+c)+f) (by omega) (by omega);have i2:=wrapN (x:=2 * ((16+(2+b)+c+16:Nat):Int)) (n:=2 * (16+(2+b)+c+16)) (by omega) (by omega);rw[i1,i2];have i3:=wrapN (x:=((2 * (16+(2+b)+c+16):Nat):Int)+(g:Int)) (n:=2 * (16+(2+b)+c+16)+g) (by omega) (by omega);rw[i3]
   exact⟨BE (by kernel_rfl),Ak.mono (AX.Fh (BK (CB _) (by kernel_rfl) hv)) fun v H e=>by have e:v=_:=e;subst e;exact Ch rfl⟩
  ·cases hx
 ·cases hx
def AAn (X:Ctx) (f:FuncId) (n:Nat):BT->Option BT:=
 Nat.rec (motive:=fun _=>BT->Option BT) (fun _=>none) (fun _ ih c=>match FC X f c with
  | some _=>some c
  | none=>match FD X c with
   | some c'=>ih c'
   | none=>none) n
theorem r9 {X:Ctx} {f:FuncId}:∀(n:Nat) (c c':BT),AAn X f n c=some c'->HQ X c c'
 | 0,_,_,h=>by cases h
 | n+1,c,c',h=>by
  have h:(match FC X f c with
   | some _=>some c
   | none=>match FD X c with
    | some c'=>AAn X f n c'
    | none=>none)=some c':=h
  split at h
  ·cases h;exact .run 0 rfl
  ·split at h
   ·rename_i c1 h1;refine .trans (.run 1 ?_) (r9 n c1 c' h);show(match FD X c with | some c'=>some c' | none=>none)=some c1;rw[h1]
   ·cases h
def nuK (f:FuncId) (v:Nat->Int) (x:Nat):QG:=⟨f,[.int .u64 (x:Int)],int (v x)⟩
def nuB (f:FuncId) (v:Nat->Int) (x:Nat):Bool:=
 Zu Tryz.prog AI (nuK f v x) (BD f) 2&&(match AAn X0 f 200 (Em f (CM 0 [.int .u64 (x:Int)] .leaf) (BD f) (A9 Tryz.prog f []) (KP AI 2))with
  | some c=>(match FC X0 f c with
   | some p=>Jw 2 p.1 (int (v x))
   | none=>false)
  | none=>false)
theorem gF {f:FuncId} {v:Nat->Int} {x:Nat} (h:nuB f v x=true):K0 Tryz.prog AI (nuK f v x):=by
 unfold nuB at h;simp only[Dg]at h;obtain⟨h1,h2⟩:=h;split at h2
 ·rename_i c hr;split at h2
  ·rename_i p hd;obtain⟨w,H1⟩:=p;have e:=WH 2 _ _ h2;simp only at e;subst e;exact Sp (CO.nil _ _) h1 (r9 _ _ _ hr) hd
  ·cases h2
 ·cases h2
def zB (n:Nat) (v:Nat->Int):DO:=fun args H=>match args with
 | [.int .u64 x]=>bif decide (0<=x)&&decide (x < n)then some (int (v x.toNat),H)else none
 | _=>none
def nuP (n:Nat) (v:Nat->Int):HL:=fun args H K=>match args with
 | [.int .u64 x]=>(0<=x/\x < n)/\K (int (v x.toNat)) H
 | _=>False
theorem qx {P:Program} {f:FuncId} (h:(entry P f).isSome=true):∃n c,entry P f=some (n,c):=by
 cases he:entry P f with
 | none=>rw[he]at h;cases h
 | some p=>exact⟨p.1,p.2,rfl⟩
theorem rh {f:FuncId} {n:Nat} {v:Nat->Int} (he:(entry Tryz.prog f).isSome=true) (h:((List.range n).all fun x=>nuB f v x)=true):CY Tryz.prog AI f (zB n v):=by
 refine⟨qx he,fun base W0 μ H W args args' w H' hW hH hl ha hF=>?_⟩;unfold zB at hF;split at hF
 ·rename_i x;cases hc:decide (0<=x)&&decide (x < (n:Int))
  ·rw[hc]at hF;cases hF
  ·rw[hc]at hF;simp only[Dg,TL]at hc;obtain⟨k,rfl⟩:=jc hc.1;cases hF
   have hk:=gF (List.all_eq_true.1 h k (List.mem_range.2 (by omega)));exact hk.2 base W0 μ H W args' hW hH ha
 ·cases hF
theorem tn {n:Nat} {v:Nat->Int}:Xf (zB n v) (nuP n v):=fun X f hX args H K h=>by
 unfold nuP at h;split at h
 ·rename_i x;obtain⟨⟨h1,h2⟩,h3⟩:=h;refine⟨_,H,?_,h3⟩;unfold CP;simp only[hX];show zB n v [.int .u64 x] H=_;unfold zB;simp only;rw[KE h1,KE h2];rfl
 ·exact h.elim
def tzN:Nat->Nat->Nat
 | 0,_=>0
 | k+1,x=>bif x % 2==1 then 0 else tzN k (x / 2)+1
def mL:Nat->Nat->Nat
 | 0,_=>0
 | k+1,x=>x % 2+mL k (x / 2)
def Zk (x:Nat):Int:=bif x==0 then 64 else(tzN 9 x:Nat)
def Ld (x:Nat):Int:=(mL 9 x:Nat)
theorem x7:((List.range 512).all fun x=>nuB Fq Zk x)=true:=by kernel_rfl
theorem yN:CY Tryz.prog AI Fq (zB 512 Zk):=rh (by kernel_rfl) x7
def zn:GA:=(Fq,zB 512 Zk,nuP 512 Zk)
def ka (a b:Int):Int:=IntKind.wrap .u64 ((BitVec.toNat (BitVec.ofInt (IntKind.bits .u64) a &&& BitVec.ofInt (IntKind.bits .u64) b):Nat):Int)
def qE (a:Int) (k:Nat):Int:=Int.fdiv a (2 ^ min k (IntKind.bits .u64))
def sN (a b:Int):Int:=IntKind.wrap .u64 (a+b)
def zl (x:Int):Int:=sN (ka (qE x 1) 6148914691236517205) (ka x 6148914691236517205)
def zo (x:Int):Int:=sN (ka (qE x 2) 3689348814741910323) (ka x 3689348814741910323)
def zr (x:Int):Int:=ka (sN (qE x 4) x) 1085102592571150095
def nS (x:Int) (k:Nat):Int:=sN x (qE x k)
def zm (x:Int):Int:=IntKind.wrap .i64 ((BitVec.toNat (BitVec.ofInt (IntKind.bits .i64) (IntKind.wrap .i64 x) &&& BitVec.ofInt (IntKind.bits .i64) 127):Nat):Int)
def we (x:Int):Int:=zm (nS (nS (nS (zr (zo (zl x))) 8) 16) 32)
theorem x6 (x:Int) (Q:Bm):CU X0 Cz [] EF [] 20 Q 200 (st EF [.int .u64 x] (hp []))=Q (int (we x)) []:=by kernel_rfl
theorem rk:((List.range 512).all fun x=>we (x:Nat)==Ld x)=true:=by kernel_rfl
def yu (args:AL) (objs:BN):GT:=match args,objs with
 | [.int .u64 x],[]=> .ask (0<=x/\x < 512) (.ret ⟨int (Ld x.toNat),[],[]⟩)
 | _,_=> .fail
theorem ti:CY Tryz.prog AI EF (Ai AI 20 [] yu):=by
 refine BF (CO.nil _ _) (by kernel_rfl) (n:=BD EF) (by kernel_rfl) (by kernel_rfl) fun argsc objs y hx hro=>?_
 clear hro;unfold yu at hx;split at hx
 ·rename_i x;simp only[GT.run]at hx;split at hx
  ·rename_i hp0;cases hx
   obtain⟨h1,h2⟩:=hp0;obtain⟨k,rfl⟩:=jc h1;have e:we (k:Nat)=Ld k:=by simpa using List.all_eq_true.1 rk k (List.mem_range.2 (by omega))
   refine⟨BE (by kernel_rfl),Ak.mono (AX.Fh (BK (CB X0) (by kernel_rfl) (Q:=fun v _=>v=int (Ld k)) (hs:=[]) (ids:=[]) (n:=200) ?_)) fun v H hv=>?_⟩
   ·exact(x6 (k:Nat) _).symm ▸ (congrArg int e)
   ·subst hv;exact⟨[],dG,fun b hb=>(by cases hb),rfl,rfl,fun j b o hj=>(by cases hj),fun j o hj hm ho=>(by cases hm)⟩
  ·cases hx
 ·cases hx
theorem KN:∀(l:AW) (k:Nat),Fu l k=0 ↔ k∉l
 | [],k=>by simp[Fu]
 | s::r,k=>by
  unfold Fu;cases h:Nat.beq s k
  ·have hs:s≠k:=fun e=>by rw[e,VX]at h;cases h
   rw[EB,RP,Nat.mul_eq_zero,Ul,AAq];constructor
   ·rintro(h | h)
    ·cases h
    ·exact⟨gi hs,(KN r k).1 h⟩
   ·rintro⟨_,h⟩;exact .inr ((KN r k).2 h)
  ·have hs:=DN h;rw[C8];constructor
   ·intro h;omega
   ·intro h;exact absurd (hs ▸ nB ..) h
theorem jl:∀(l:AW) (k:Nat),Fu l k < 2 ^ l.length
 | [],k=>by show 0 < 1;decide
 | s::r,k=>by
  have h:=jl r k;unfold Fu;rw[bT,AAc];cases Nat.beq s k
  ·rw[EB];omega
  ·rw[C8];omega
theorem tv {l:AW} (h:l.length<=9) (k:Nat):Fu l k < 512:=by
 have h1:=jl l k;have h2:2 ^ l.length<=2 ^ 9:=ABd (by decide) h;have h3:2 ^ 9=512:=rfl;omega
def Ly:AW->Nat->Nat
 | [],_=>0
 | s::r,k=>bif Nat.beq s k then 0 else Ly r k+1
def TS:AW->Nat->Nat
 | [],_=>0
 | s::r,k=>(bif Nat.beq s k then 1 else 0)+TS r k
theorem jW:∀(f:Nat) (l:AW) (k:Nat),k∈l->l.length<=f->tzN f (Fu l k)=Ly l k
 | 0,[],_,h,_=>by cases h
 | 0,_::_,_,_,h=>by rw[bT]at h;omega
 | f+1,[],_,h,_=>by cases h
 | f+1,s::r,k,h,hf=>by
  unfold tzN Fu Ly;cases hb:Nat.beq s k
  ·have hs:s≠k:=fun e=>by rw[e,VX]at hb;cases hb
   have hm:k∈r:=by
    rcases List.mem_cons.1 h with h | h
    ·exact absurd h.symm hs
    ·exact h
   simp only[EB];rw[show(0+2 * Fu r k) % 2=0 by omega,show(0+2 * Fu r k) / 2=Fu r k by omega,jW f r k hm (by rw[bT]at hf;omega)];rfl
  ·simp only[C8];rw[show(1+2 * Fu r k) % 2=1 by omega];rfl
theorem Tu:∀(f:Nat) (l:AW) (k:Nat),l.length<=f->mL f (Fu l k)=TS l k
 | 0,[],_,_=>rfl
 | 0,_::_,_,h=>by rw[bT]at h;omega
 | f+1,[],k,_=>by
  show 0 % 2+mL f (0 / 2)=0;have:=Tu f [] k (ay _);exact this ▸ rfl
 | f+1,s::r,k,hf=>by
  unfold mL Fu TS;have ih:=Tu f r k (by rw[bT]at hf;omega);cases Nat.beq s k
  ·simp only[EB];rw[show(0+2 * Fu r k) % 2=0 by omega,show(0+2 * Fu r k) / 2=Fu r k by omega,ih]
  ·simp only[C8];rw[show(1+2 * Fu r k) % 2=1 by omega,show(1+2 * Fu r k) / 2=Fu r k by omega,ih]
theorem qe {l:AW} {k:Nat} (hk:k∈l) (h:l.length<=9):Zk (Fu l k)=(Ly l k:Nat):=by
 unfold Zk;have h0:(Fu l k==0)=false:=oH.2 fun e=>(KN l k).1 e hk
 rw[h0,EB,jW 9 l k hk h]
theorem kb {l:AW} (k:Nat) (h:l.length<=9):Ld (Fu l k)=(TS l k:Nat):=by
 unfold Ld;rw[Tu 9 l k h]
theorem cK:∀{l:AW} {k:Nat},k∈l->Ly l k < l.length/\l.getD (Ly l k) 0=k
 | [],_,h=>by cases h
 | s::r,k,h=>by
  unfold Ly;cases hb:Nat.beq s k
  ·have hs:s≠k:=fun e=>by rw[e,VX]at hb;cases hb
   have hm:k∈r:=by
    rcases List.mem_cons.1 h with h | h
    ·exact absurd h.symm hs
    ·exact h
   obtain⟨h1,h2⟩:=cK hm;exact⟨by rw[EB,bT];omega,h2⟩
  ·exact⟨by rw[C8,bT];omega,DN hb⟩
theorem Oc:∀(l:AW) (k i s:Nat),i < l.length->Fu (l.set i s) k+(bif Nat.beq (l.getD i 0) k then 2 ^ i else 0)=Fu l k+(bif Nat.beq s k then 2 ^ i else 0)
 | [],_,_,_,h=>by cases h
 | x::r,k,0,s,_=>by
  show(bif Nat.beq s k then 1 else 0)+2 * Fu r k+(bif Nat.beq x k then 1 else 0)=(bif Nat.beq x k then 1 else 0)+2 * Fu r k+(bif Nat.beq s k then 1 else 0);omega
 | x::r,k,i+1,s,h=>by
  have ih:=Oc r k i s (by rw[bT]at h;omega);show(bif Nat.beq x k then 1 else 0)+2 * Fu (r.set i s) k+(bif Nat.beq (r.getD i 0) k then 2 ^ (i+1)else 0)=(bif Nat.beq x k then 1 else 0)+2 * Fu r k+(bif Nat.beq s k then 2 ^ (i+1)else 0);rw[AAc];revert ih;generalize Fu (r.set i s) k=u;generalize Fu r k=w;generalize 2 ^ i=p;cases Nat.beq (r.getD i 0) k<;>cases Nat.beq s k<;>simp only[C8,EB]<;>intro ih<;>omega
theorem cg:∀(l:AW) (k i:Nat),i < l.length->Fu l k / 2 ^ i % 2=bif Nat.beq (l.getD i 0) k then 1 else 0
 | [],_,_,h=>by cases h
 | x::r,k,0,_=>by
  show((bif Nat.beq x k then 1 else 0)+2 * Fu r k) / 1 % 2=bif Nat.beq x k then 1 else 0
  cases Nat.beq x k<;>simp only[C8,EB]<;>omega
 | x::r,k,i+1,h=>by
  have ih:=cg r k i (by rw[bT]at h;omega);show((bif Nat.beq x k then 1 else 0)+2 * Fu r k) / 2 ^ (i+1) % 2=bif Nat.beq (r.getD i 0) k then 1 else 0
  rw[AAc,ABH (2 ^ i) 2,<-Nat.div_div_eq_div_mul,<-ih]
  congr 2
  cases Nat.beq x k<;>simp only[C8,EB]<;>omega
def ZC:List GA:=[zn,GQ EF [] yu]
theorem ADL:Ci ZC:= .other yN tn (.cons ti .nil)
abbrev iD:Ctx:=Bp Tryz.prog AI (Cv ZC)
def JP (n b:Int):AP:= .cells [int n,.int .u64 b] 0 false
def zG (n b:Int):AP:= .cells [int n,.int .u64 b] 0 true
theorem ki (n b:Int) (Q:Bm):CU iD (Ax ZC) [] CC [20] 21 Q 200 (st CC [At 20] (hp [zG n b]))=(
 let e:=IntKind.bits IntKind.u64;let d:AP:= .cells [(int n),(.int IntKind.u64 b)] 0 true;let c:Prop:=Q (.tuple ⟨[(int 0),(.bool false)]⟩) [some d];let a:=Int.fdiv b (2 ^ min 0 e) * 2 ^ min 0 e;(bif decide (n > 0)then(bif decide (0≥n)then c else(bif IntKind.wrap IntKind.u64 a==0 then c else(0<=IntKind.wrap IntKind.u64 a/\IntKind.wrap IntKind.u64 a < (512:Int))/\(Q (.tuple ⟨[(int (Zk (IntKind.wrap IntKind.u64 a).toNat)),(.bool true)]⟩) [some d])))else c)):=by kernel_rfl
theorem iS (n b:Int) (Q:Bm):CU iD (Ax ZC) [] E7 [20] 21 Q 200 (st E7 [At 20] (hp [zG n b]))=(
 let a:AP:= .cells [(int n),(.int IntKind.u64 b)] 0 true;(bif decide (n > 0)then(0<=b/\b < 512)/\(Q (int (Ld b.toNat)) [some a])else(Q (int 0) [some a]))):=by kernel_rfl
theorem lG (n b i:Int) (Q:Bm):CU iD (Ax ZC) [] Eo [20] 21 Q 200 (st Eo [At 20,int i] (hp [zG n b]))=(
 let d:AP:= .cells [(int n),(.int IntKind.u64 b)] 0 true;let c:=IntKind.bits IntKind.u64;let a:Prop:=Q (.bool false) [some d];(bif decide (n > 0)then(bif decide (i < 0)then a else(bif decide (i≥n)then a else(bif decide (0<=i)then(bif IntKind.wrap IntKind.u64 ((BitVec.toNat (BitVec.ofInt c (Int.fdiv b (2 ^ min i.toNat c)) &&& BitVec.ofInt c 1)):Int)==1 then(Q (.bool true) [some d])else a)else False)))else a)):=by kernel_rfl
theorem ju (n b i:Int) (Q:Bm):CU iD (Ax ZC) [] EG [20] 21 Q 200 (st EG [At 20,int i] (hp [JP n b]))=(
 let c:=IntKind.bits IntKind.u64;let a:AP:= .cells [(int n),(.int IntKind.u64 b)] 0 false;(bif decide (n > 0)then(bif decide (i < 0)then(Q (int 3) [some a])else(bif decide (i≥n)then(Q (int 3) [some a])else(bif decide (0<=i)then(Q (int 0) [some (.cells [(int n),(.int IntKind.u64 (IntKind.wrap IntKind.u64 ((BitVec.toNat (BitVec.ofInt c b ||| BitVec.ofInt c (IntKind.wrap IntKind.u64 (1 * 2 ^ min i.toNat c)))):Int)))] 0 false)])else False)))else(Q (int 1) [some a]))):=by kernel_rfl
theorem lS (n b i:Int) (Q:Bm):CU iD (Ax ZC) [] B2 [20] 21 Q 200 (st B2 [At 20,int i] (hp [JP n b]))=(
 let c:=IntKind.bits IntKind.u64;let a:AP:= .cells [(int n),(.int IntKind.u64 b)] 0 false;(bif decide (n > 0)then(bif decide (i < 0)then(Q (int 3) [some a])else(bif decide (i≥n)then(Q (int 3) [some a])else(bif decide (0<=i)then(Q (int 0) [some (.cells [(int n),(.int IntKind.u64 (IntKind.wrap IntKind.u64 ((BitVec.toNat (BitVec.ofInt c b &&& ~~~BitVec.ofInt c (IntKind.wrap IntKind.u64 (1 * 2 ^ min i.toNat c)))):Int)))] 0 false)])else False)))else(Q (int 1) [some a]))):=by kernel_rfl
theorem jr (n:Int) (Q:Bm):CU iD (Ax ZC) [] HM [20] 20 Q 200 (st HM [int n] (hp []))=(
 let b:AP:= .cells [(int n),(.int IntKind.u64 0)] 0 false;let a:Prop:=Q (.tuple ⟨[(.pointer none),(int 2)]⟩) [none];(bif decide (n < 1)then a else(bif decide (n > 34)then a else(Q (.tuple ⟨[(At 20),(int 0)]⟩) [some b,some b])))):=by kernel_rfl
def hasB (b i:Int):Bool:=b.toNat / 2 ^ i.toNat % 2==1
def L1 (b i:Int):Int:=bif hasB b i then b else b+2 ^ i.toNat
def MJ (b i:Int):Int:=bif hasB b i then b - 2 ^ i.toNat else b
def yY (b i:Int):Bool:=IntKind.wrap .u64 ((BitVec.toNat (BitVec.ofInt (IntKind.bits .u64) (Int.fdiv b (2 ^ min i.toNat (IntKind.bits .u64))) &&& BitVec.ofInt (IntKind.bits .u64) 1):Nat):Int)==1
def zq (b i:Int):Int:=IntKind.wrap .u64 ((BitVec.toNat (BitVec.ofInt (IntKind.bits .u64) b ||| BitVec.ofInt (IntKind.bits .u64) (IntKind.wrap .u64 (1 * 2 ^ min i.toNat (IntKind.bits .u64)))):Nat):Int)
def zZ (b i:Int):Int:=IntKind.wrap .u64 ((BitVec.toNat (BitVec.ofInt (IntKind.bits .u64) b &&& ~~~BitVec.ofInt (IntKind.bits .u64) (IntKind.wrap .u64 (1 * 2 ^ min i.toNat (IntKind.bits .u64)))):Nat):Int)
def za:Bool:=(List.range 9).all fun i=>(List.range 512).all fun m=>(yY (m:Nat) (i:Nat)==hasB (m:Nat) (i:Nat))&&((zq (m:Nat) (i:Nat)==L1 (m:Nat) (i:Nat))&&(zZ (m:Nat) (i:Nat)==MJ (m:Nat) (i:Nat)))
theorem kp:za=true:=by kernel_rfl
structure WE (n b:Int):Prop where
 n0:0 < n
 n1:n<=9
 b0:0<=b
 b1:b < 512
structure LO (n b i:Int):Prop where
 ok:WE n b
 i0:0<=i
 i1:i < n
theorem T8 {n b i:Int} (h:LO n b i):yY b i=hasB b i/\zq b i=L1 b i/\zZ b i=MJ b i:=by
 obtain⟨⟨n0,n1,b0,b1⟩,i0,i1⟩:=h;obtain⟨m,rfl⟩:=jc b0;obtain⟨k,rfl⟩:=jc i0;have h1:=List.all_eq_true.1 kp k (List.mem_range.2 (by omega));have h2:=List.all_eq_true.1 h1 m (List.mem_range.2 (by omega));simp only[Dg,ABW]at h2;exact h2
theorem AAD {b:Int} (h0:0<=b) (h1:b < 512):IntKind.wrap .u64 (Int.fdiv b (2 ^ min 0 (IntKind.bits .u64)) * 2 ^ min 0 (IntKind.bits .u64))=b:=by
 rw[Nat.zero_min,Int.pow_zero,Int.mul_one,Int.fdiv_one];exact M9 h0 (by omega)
def Y5 (args:AL) (objs:BN):GT:=match args,objs with
 | [.pointer (some ⟨20,0,none⟩)],[.cells [.int .i64 n,.int .u64 b] 0 _]=> .ask (WE n b) (.test (b==0) (.ret ⟨.tuple ⟨[int 0,.bool false]⟩,[],[]⟩) (.ret ⟨.tuple ⟨[int (Zk b.toNat),.bool true]⟩,[],[]⟩))
 | _,_=> .fail
def Ye (args:AL) (objs:BN):GT:=match args,objs with
 | [.pointer (some ⟨20,0,none⟩)],[.cells [.int .i64 n,.int .u64 b] 0 _]=> .ask (WE n b) (.ret ⟨int (Ld b.toNat),[],[]⟩)
 | _,_=> .fail
def Y9 (args:AL) (objs:BN):GT:=match args,objs with
 | [.pointer (some ⟨20,0,none⟩),.int .i64 i],[.cells [.int .i64 n,.int .u64 b] 0 _]=> .ask (LO n b i) (.ret ⟨.bool (hasB b i),[],[]⟩)
 | _,_=> .fail
def X2 (args:AL) (objs:BN):GT:=match args,objs with
 | [.pointer (some ⟨20,0,none⟩),.int .i64 i],[.cells [.int .i64 n,.int .u64 b] 0 _]=> .ask (LO n b i) (.ret ⟨int 0,[some (JP n (L1 b i))],[]⟩)
 | _,_=> .fail
def Xa (args:AL) (objs:BN):GT:=match args,objs with
 | [.pointer (some ⟨20,0,none⟩),.int .i64 i],[.cells [.int .i64 n,.int .u64 b] 0 _]=> .ask (LO n b i) (.ret ⟨int 0,[some (JP n (MJ b i))],[]⟩)
 | _,_=> .fail
def WZ (args:AL) (objs:BN):GT:=match args,objs with
 | [.int .i64 n],[]=> .ask (0 < n/\n<=9) (.ret ⟨.tuple ⟨[At 20,int 0]⟩,[],[JP n 0]⟩)
 | _,_=> .fail
theorem gO:CY Tryz.prog AI CC (Ai AI 20 [] Y5):=by
 refine BF ADL.all (by kernel_rfl) (n:=BD CC) (by kernel_rfl) (by kernel_rfl) fun argsc objs x hx hro=>?_
 clear hro;unfold Y5 at hx;split at hx
 ·rename_i n b ro;simp only[GT.run]at hx;split at hx
  ·rename_i h;obtain⟨n0,n1,b0,b1⟩:=h;refine⟨?_,?_⟩
   ·exact BE (by kernel_rfl)
   ·have hv:CU iD (Ax ZC) [] CC [20] 21 (fun v _=>v=bif b==0 then .tuple ⟨[int 0,.bool false]⟩else .tuple ⟨[int (Zk b.toNat),.bool true]⟩) 200 (st CC [At 20] (hp [zG n b])):=by
     rw[ki];(conv=>zeta);rw[AAD b0 b1]
     refine AB (KE n0) (AZ (MC (by omega)) ?_);cases b==0
     ·exact⟨⟨b0,b1⟩,rfl⟩
     ·exact rfl
    cases hb:b==0
    all_goals
     rw[hb]at hx hv;cases hx
     exact Ak.mono (AX.Fh (BK ADL.pf (by kernel_rfl) hv)) fun v H e=>by have e:v=_:=e;subst e;exact Ch rfl
  ·cases hx
 ·cases hx
theorem gA:CY Tryz.prog AI E7 (Ai AI 20 [] Ye):=by
 refine BF ADL.all (by kernel_rfl) (n:=BD E7) (by kernel_rfl) (by kernel_rfl) fun argsc objs x hx hro=>?_
 clear hro;unfold Ye at hx;split at hx
 ·rename_i n b ro;simp only[GT.run]at hx;split at hx
  ·rename_i h;cases hx
   have hv:CU iD (Ax ZC) [] E7 [20] 21 (fun v _=>v=int (Ld b.toNat)) 200 (st E7 [At 20] (hp [zG n b])):=by
    rw[iS];exact AB (KE h.n0) ⟨⟨h.b0,h.b1⟩,rfl⟩
   exact⟨BE (by kernel_rfl),Ak.mono (AX.Fh (BK ADL.pf (by kernel_rfl) hv)) fun v H e=>by have e:v=_:=e;subst e;exact Ch rfl⟩
  ·cases hx
 ·cases hx
theorem fX:CY Tryz.prog AI Eo (Ai AI 20 [] Y9):=by
 refine BF ADL.all (by kernel_rfl) (n:=BD Eo) (by kernel_rfl) (by kernel_rfl) fun argsc objs x hx hro=>?_
 clear hro;unfold Y9 at hx;split at hx
 ·rename_i i n b ro;simp only[GT.run]at hx;split at hx
  ·rename_i h;cases hx
   have hv:CU iD (Ax ZC) [] Eo [20] 21 (fun v _=>v= .bool (hasB b i)) 200 (st Eo [At 20,int i] (hp [zG n b])):=by
    rw[lG];(conv=>zeta)
    have e:=(T8 h).1;refine AB (KE h.ok.n0) (AZ (MC (by have:=h.i0;omega)) (AZ (MC (by have:=h.i1;omega)) (AB (KE h.i0) ?_)));show bif yY b i then _ else _
    rw[e];cases hasB b i<;>exact rfl
   exact⟨BE (by kernel_rfl),Ak.mono (AX.Fh (BK ADL.pf (by kernel_rfl) hv)) fun v H e=>by have e:v=_:=e;subst e;exact Ch rfl⟩
  ·cases hx
 ·cases hx
theorem dO {v:Value} {o:AP} {H:AA} (hv:Cu 6 v=true) (ho:∀ρ,BV ρ o=some o) (hg:H.get 20=some o):Db AI 20 1 [true] ⟨v,[some o],[]⟩ v H:=by
 refine⟨[],dG,fun b hb=>(by cases hb),rfl,J8 6 v hv,fun j b o hj=>(by cases hj),fun j o' hj _ h=>?_⟩;have hj:j=0:=by omega
 subst hj;cases h
 exact⟨_,ho _,hg⟩
theorem bz (n b:Int) (ρ:Ren):BV ρ (JP n b)=some (JP n b):=rfl
theorem fg:CY Tryz.prog AI EG (Ai AI 20 [true] X2):=by
 refine BF ADL.all (by kernel_rfl) (n:=BD EG) (by kernel_rfl) (by kernel_rfl) fun argsc objs x hx hro=>?_
 unfold X2 at hx;split at hx
 ·rename_i i n b ro;have hr0:ro=false:=hro 0 _ rfl rfl;subst hr0;simp only[GT.run]at hx;split at hx
  ·rename_i h;cases hx
   have hv:CU iD (Ax ZC) [] EG [20] 21 (fun v os=>v=int 0/\os=[some (JP n (L1 b i))]) 200 (st EG [At 20,int i] (hp [JP n b])):=by
    rw[ju];(conv=>zeta)
    have e:=(T8 h).2.1;refine AB (KE h.ok.n0) (AZ (MC (by have:=h.i0;omega)) (AZ (MC (by have:=h.i1;omega)) (AB (KE h.i0) ⟨rfl,?_⟩)));rw[<-e];rfl
   refine⟨BE (by kernel_rfl),Ak.mono (AX.Fh (BK ADL.pf (by kernel_rfl) hv)) fun v H ⟨e,hos⟩=>?_⟩;subst e;have hos:[H.get 20]=_:=hos;simp only[Nh,iy]at hos;exact dO rfl (bz _ _) hos
  ·cases hx
 ·cases hx
theorem fk:CY Tryz.prog AI B2 (Ai AI 20 [true] Xa):=by
 refine BF ADL.all (by kernel_rfl) (n:=BD B2) (by kernel_rfl) (by kernel_rfl) fun argsc objs x hx hro=>?_
 unfold Xa at hx;split at hx
 ·rename_i i n b ro;have hr0:ro=false:=hro 0 _ rfl rfl;subst hr0;simp only[GT.run]at hx;split at hx
  ·rename_i h;cases hx
   have hv:CU iD (Ax ZC) [] B2 [20] 21 (fun v os=>v=int 0/\os=[some (JP n (MJ b i))]) 200 (st B2 [At 20,int i] (hp [JP n b])):=by
    rw[lS];(conv=>zeta)
    have e:=(T8 h).2.2;refine AB (KE h.ok.n0) (AZ (MC (by have:=h.i0;omega)) (AZ (MC (by have:=h.i1;omega)) (AB (KE h.i0) ⟨rfl,?_⟩)));rw[<-e];rfl
   refine⟨BE (by kernel_rfl),Ak.mono (AX.Fh (BK ADL.pf (by kernel_rfl) hv)) fun v H ⟨e,hos⟩=>?_⟩;subst e;have hos:[H.get 20]=_:=hos;simp only[Nh,iy]at hos;exact dO rfl (bz _ _) hos
  ·cases hx
 ·cases hx
theorem fO:CY Tryz.prog AI HM (Ai AI 20 [] WZ):=by
 refine BF ADL.all (by kernel_rfl) (n:=BD HM) (by kernel_rfl) (by kernel_rfl) fun argsc objs x hx hro=>?_
 clear hro;unfold WZ at hx;split at hx
 ·rename_i n;simp only[GT.run]at hx;split at hx
  ·rename_i h;cases hx
   have hv:CU iD (Ax ZC) [] HM [20] 20 (fun v os=>v= .tuple ⟨[At 20,int 0]⟩/\os=[some (JP n 0),some (JP n 0)]) 200 (st HM [int n] (hp [])):=by
    rw[jr];exact AZ (MC (by omega)) (AZ (MC (by omega)) ⟨rfl,rfl⟩)
   refine⟨BE (by kernel_rfl),Ak.mono (AX.Fh (BK ADL.pf (by kernel_rfl) hv)) fun v H ⟨e,hos⟩=>?_⟩;subst e;have hos:H.get 20::[H.get 20]=_:=hos;simp only[Nh,iy]at hos;refine⟨[20],by decide,fun b hb=>?_,rfl,rfl,fun j b o hj ho=>?_,fun j o hj=>(by cases hj)⟩
   ·rw[Q4]at hb;rw[hb];exact GO _
   ·match j,hj,ho with
    | 0,hj,ho=>cases hj;cases ho;exact⟨_,rfl,hos.1⟩
    | j+1,hj,_=>cases hj
  ·cases hx
 ·cases hx
structure DZ where
 n:Int
 r:Int
 b0:Int
 b1:Int
 b2:Int
 b3:Int
 b4:Int
def u4 (n r:Int):AP:= .cells [int n,int r,At 21,At 22,At 23,At 24,At 25] 0 false
def iC (t:DZ):AA:=hp [u4 t.n t.r,JP t.n t.b0,JP t.n t.b1,JP t.n t.b2,JP t.n t.b3,JP t.n t.b4]
def tbL (l:AP) (t:DZ):AA:=(iC t).put 0 l
def uK:AP:= .cells [.bool false,.bool true,.bool false,.bool false,.bool true,int 2] 0 true
abbrev wK:AW:=[20,21,22,23,24,25]
def wg (args:AL) (objs:BN):GT:=match args,objs with
 | [.pointer (some ⟨20,0,none⟩)],[.cells (.int .i64 n::_) 0 _,_,_,_,_,_]=> .ask (0 < n) (.ret ⟨.bool true,[],[]⟩)
 | _,_=> .fail
def tbR (o1 o2 o3 o4 o5:AP) (l:AL) (n:Int):AA:=hp [.cells (int n::l) 0 true,o1,o2,o3,o4,o5]
theorem sQ (o1 o2 o3 o4 o5:AP) (l:AL) (n:Int) (Q:Bm):CU X0 Cz [] DL [] 26 Q 100 (st DL [At 20] (tbR o1 o2 o3 o4 o5 l n))=(
 (bif decide (n > 0)then(Q (.bool true) [])else(Q (.bool false) []))):=by kernel_rfl
theorem js:CY Tryz.prog AI DL (Ai AI 20 [] wg):=by
 refine BF (CO.nil _ _) (by kernel_rfl) (n:=BD DL) (by kernel_rfl) (by kernel_rfl) fun argsc objs x hx hro=>?_
 clear hro;unfold wg at hx;split at hx
 ·rename_i n l ro o1 o2 o3 o4 o5;simp only[GT.run]at hx;split at hx
  ·rename_i h;cases hx
   have hv:CU X0 Cz [] DL [] 26 (fun v _=>v= .bool true) 100 (st DL [At 20] (hp (EH [] 0 [.cells (int n::l) 0 ro,o1,o2,o3,o4,o5]))):=by
    have:=sQ (Km o1) (Km o2) (Km o3) (Km o4) (Km o5) l n (fun v _=>v= .bool true);refine this.mpr ?_;exact AB (KE h) rfl
   exact⟨BE (by kernel_rfl),Ak.mono (AX.Fh (BK (CB _) (by kernel_rfl) hv)) fun v H e=>by have e:v=_:=e;subst e;exact Ch rfl⟩
  ·cases hx
 ·cases hx
def iA:List GA:=[GQ CC [] Y5,GQ E7 [] Ye,GQ Eo [] Y9,GQ EG [true] X2,GQ B2 [true] Xa,GQ HM [] WZ,GQ DL [] wg]
theorem QP:Ci iA:= .cons gO <| .cons gA <| .cons fX <| .cons fg <| .cons fk <| .cons fO <| .cons js .nil
abbrev j4:Ctx:=Bp Tryz.prog AI (Cv iA)
theorem TN (t:DZ) (Q:Bm):CU j4 (Ax iA) [] Dm wK 21 Q 200 (st Dm [At 20,int 1] (iC t))=(
 let a:=int (DZ.n t);let g:AP:= .cells [a,(.int IntKind.u64 (DZ.b4 t))] 0 false;let f:AP:= .cells [a,(.int IntKind.u64 (DZ.b3 t))] 0 false;let e:AP:= .cells [a,(.int IntKind.u64 (DZ.b2 t))] 0 false;let d:AP:= .cells [a,(.int IntKind.u64 (DZ.b1 t))] 0 false;let c:AP:= .cells [a,(.int IntKind.u64 (DZ.b0 t))] 0 false;let b:AP:= .cells [a,(int (DZ.r t)),(At 21),(At 22),(At 23),(At 24),(At 25)] 0 false;(0 < DZ.n t)/\(WE (DZ.n t) (DZ.b1 t))/\(bif DZ.b1 t==0 then(Q (.tuple ⟨[(int 0),(.bool false)]⟩) [some b,some c,some d,some e,some f,some g])else(Q (.tuple ⟨[(int (Zk (DZ.b1 t).toNat)),(.bool true)]⟩) [some b,some c,some d,some e,some f,some g]))):=by kernel_rfl
theorem ny (t:DZ) (Q:Bm):CU j4 (Ax iA) [] F5 wK 21 Q 200 (st F5 [At 20] (iC t))=(
 let a:=int (DZ.n t);(0 < DZ.n t)/\(WE (DZ.n t) (DZ.b0 t))/\(Q (int (Ld (DZ.b0 t).toNat)) [some (.cells [a,(int (DZ.r t)),(At 21),(At 22),(At 23),(At 24),(At 25)] 0 false),some (.cells [a,(.int IntKind.u64 (DZ.b0 t))] 0 false),some (.cells [a,(.int IntKind.u64 (DZ.b1 t))] 0 false),some (.cells [a,(.int IntKind.u64 (DZ.b2 t))] 0 false),some (.cells [a,(.int IntKind.u64 (DZ.b3 t))] 0 false),some (.cells [a,(.int IntKind.u64 (DZ.b4 t))] 0 false)])):=by kernel_rfl
theorem fh (t:DZ) (Q:Bm):CU j4 (Ax iA) [] Fp wK 21 Q 200 (st Fp [At 20] (iC t))=(
 let d:Value:= .pointer (some ⟨20,1,none⟩);let c:=((At 20):Value)=(At 20);let b:=int (DZ.r t);let a:=int (DZ.n t);(0 < DZ.n t)/\((b:Value)=b)/\((d:Value)=d)/\c/\c/\(Q (.tuple ⟨[a,b]⟩) [some (.cells [a,b,(At 21),(At 22),(At 23),(At 24),(At 25)] 0 false),some (.cells [a,(.int IntKind.u64 (DZ.b0 t))] 0 false),some (.cells [a,(.int IntKind.u64 (DZ.b1 t))] 0 false),some (.cells [a,(.int IntKind.u64 (DZ.b2 t))] 0 false),some (.cells [a,(.int IntKind.u64 (DZ.b3 t))] 0 false),some (.cells [a,(.int IntKind.u64 (DZ.b4 t))] 0 false)])):=by kernel_rfl
theorem lp (t:DZ) (Q:Bm):CU j4 (Ax iA) [] Dj wK 21 Q 400 (st Dj [At 20] (iC t))=(
 let l:=WE (DZ.n t) (DZ.b0 t);let k:Value:= .pointer (some ⟨20,1,none⟩);let j:=int (DZ.r t);let i:=((At 20):Value)=(At 20);let f:=Zk (DZ.b0 t).toNat;let a:=int (DZ.n t);let h:AP:= .cells [a,(.int IntKind.u64 (DZ.b1 t))] 0 false;let g:AP:= .cells [a,(.int IntKind.u64 (DZ.b0 t))] 0 false;let e:AP:= .cells [a,(.int IntKind.u64 (DZ.b4 t))] 0 false;let d:AP:= .cells [a,(.int IntKind.u64 (DZ.b3 t))] 0 false;let c:AP:= .cells [a,(.int IntKind.u64 (DZ.b2 t))] 0 false;let b:AP:= .cells [a,j,(At 21),(At 22),(At 23),(At 24),(At 25)] 0 false;(0 < DZ.n t)/\(WE (DZ.n t) (DZ.b1 t))/\(bif decide (Ld (DZ.b1 t).toNat > 0)then(Q (.tuple ⟨[(int 0),(int 6)]⟩) [some b,some g,some h,some c,some d,some e])else(0 < DZ.n t)/\l/\((j:Value)=j)/\((k:Value)=k)/\i/\i/\(bif decide (Ld (DZ.b0 t).toNat<=DZ.r t)then(Q (.tuple ⟨[(int 0),(int 11)]⟩) [some b,some g,some h,some c,some d,some e])else l/\(bif DZ.b0 t==0 then(LO (DZ.n t) (DZ.b0 t) 0)/\(LO (DZ.n t) (DZ.b1 t) 0)/\(Q (.tuple ⟨[(int 0),(int 0)]⟩) [some b,some (.cells [a,(.int IntKind.u64 (MJ (DZ.b0 t) 0))] 0 false),some (.cells [a,(.int IntKind.u64 (L1 (DZ.b1 t) 0))] 0 false),some c,some d,some e])else(LO (DZ.n t) (DZ.b0 t) f)/\(LO (DZ.n t) (DZ.b1 t) f)/\(Q (.tuple ⟨[(int f),(int 0)]⟩) [some b,some (.cells [a,(.int IntKind.u64 (MJ (DZ.b0 t) f))] 0 false),some (.cells [a,(.int IntKind.u64 (L1 (DZ.b1 t) f))] 0 false),some c,some d,some e]))))):=by kernel_rfl
theorem eW (t:DZ) (i:Int) (Q:Bm):CU j4 (Ax iA) [] Hq wK 21 Q 1000 (st Hq [At 20,int i] (iC t))=(
 let b:=int (DZ.n t);let g:AP:= .cells [b,(.int IntKind.u64 (DZ.b4 t))] 0 false;let f:AP:= .cells [b,(.int IntKind.u64 (DZ.b3 t))] 0 false;let e:AP:= .cells [b,(.int IntKind.u64 (DZ.b2 t))] 0 false;let d:AP:= .cells [b,(.int IntKind.u64 (DZ.b1 t))] 0 false;let c:AP:= .cells [b,(.int IntKind.u64 (DZ.b0 t))] 0 false;let a:AP:= .cells [b,(int (DZ.r t)),(At 21),(At 22),(At 23),(At 24),(At 25)] 0 false;let h:Prop:=Q (.tuple ⟨[(int 0),(int 3)]⟩) [some a,some c,some d,some e,some f,some g];(0 < DZ.n t)/\(bif decide (i < 0)then h else(bif decide (i≥DZ.n t)then h else(LO (DZ.n t) (DZ.b0 t) i)/\(bif hasB (DZ.b0 t) i then(Q (.tuple ⟨[(int 0),(int 0)]⟩) [some a,some c,some d,some e,some f,some g])else(LO (DZ.n t) (DZ.b1 t) i)/\(bif hasB (DZ.b1 t) i then(Q (.tuple ⟨[(int 1),(int 0)]⟩) [some a,some c,some d,some e,some f,some g])else(LO (DZ.n t) (DZ.b2 t) i)/\(bif hasB (DZ.b2 t) i then(Q (.tuple ⟨[(int 2),(int 0)]⟩) [some a,some c,some d,some e,some f,some g])else(LO (DZ.n t) (DZ.b3 t) i)/\(bif hasB (DZ.b3 t) i then(Q (.tuple ⟨[(int 3),(int 0)]⟩) [some a,some c,some d,some e,some f,some g])else(LO (DZ.n t) (DZ.b4 t) i)/\(bif hasB (DZ.b4 t) i then(Q (.tuple ⟨[(int 4),(int 0)]⟩) [some a,some c,some d,some e,some f,some g])else(Q (.tuple ⟨[(int 0),(int 7)]⟩) [some a,some c,some d,some e,some f,some g]))))))))):=by kernel_rfl
theorem nZ (t:DZ) (i:Int) (Q:Bm):CU j4 (Ax iA) [] D3 wK 21 Q 1000 (st D3 [At 20,int i] (tbL uK t))=(
 let o:=LO (DZ.n t) (DZ.b4 t) i;let m:=LO (DZ.n t) (DZ.b1 t) i;let j:=LO (DZ.n t) (DZ.b2 t) i;let c:=int (DZ.n t);let l:AP:= .cells [c,(.int IntKind.u64 (DZ.b2 t))] 0 false;let k:AP:= .cells [c,(.int IntKind.u64 (L1 (DZ.b2 t) i))] 0 false;let h:AP:= .cells [c,(.int IntKind.u64 (DZ.b4 t))] 0 false;let g:AP:= .cells [c,(.int IntKind.u64 (DZ.b1 t))] 0 false;let f:AP:= .cells [c,(.int IntKind.u64 (DZ.b3 t))] 0 false;let e:AP:= .cells [c,(.int IntKind.u64 (DZ.b0 t))] 0 false;let d:AP:= .cells [c,(int (DZ.r t)),(At 21),(At 22),(At 23),(At 24),(At 25)] 0 false;let b:Prop:=Q (int 3) [some d,some e,some g,some l,some f,some h];let a:Prop:=Q (int 7) [some d,some e,some g,some l,some f,some h];(0 < DZ.n t)/\(bif decide (i < 0)then b else(bif decide (i≥DZ.n t)then b else(LO (DZ.n t) (DZ.b0 t) i)/\(bif hasB (DZ.b0 t) i then a else m/\(bif hasB (DZ.b1 t) i then m/\j/\(Q (int 0) [some d,some e,some (.cells [c,(.int IntKind.u64 (MJ (DZ.b1 t) i))] 0 false),some k,some f,some h])else j/\(bif hasB (DZ.b2 t) i then a else(LO (DZ.n t) (DZ.b3 t) i)/\(bif hasB (DZ.b3 t) i then a else o/\(bif hasB (DZ.b4 t) i then o/\j/\(Q (int 0) [some d,some e,some g,some k,some f,some (.cells [c,(.int IntKind.u64 (MJ (DZ.b4 t) i))] 0 false)])else a)))))))):=by kernel_rfl
end Go.AD
namespace Go.AD
section
variable {X:Ctx} {base:Env} {W0:World} {μ:Ae} {H:AA} {W:World}
theorem AJ.AAj (hW:Eb X base W0) (hl:Bj X μ) (h:AJ base W0 μ H W) {g:Nat} {cs:AL} (hg:(g,cs)∈X.laid) (hro:∀b a ro,H.get b=some (.abs a ro)->ro=false):AJ base W0 μ (H.put g (.cells cs 0 true)) W:=by
 obtain⟨T,h1,h2,h3,h4,h5⟩:=hl g (List.any_eq_true.2 ⟨_,hg,by simp⟩);have h5:=h5 cs hg;obtain⟨hK,a,t,fz,ha,hc⟩:=hW.2 _ hg;have hKT:base.K T.c:=by rw[h2];exact hK
 have haW:W.heap[T.c]? = some (.cells a t fz):=by rw[h.below _ hKT,h2];exact ha
 have hrel:=hc.rel μ;have hlen:cs.length=a.toList.length:=hrel.length;have hor:CZ μ T (.cells cs 0 true) (.cells a t fz):=by
  refine .cells _ _ _ true a t fz.1 fz.2 h4.symm ?_ ?_ (fun e=>by cases e)
  ·rw[h3,bl,hlen,qs];exact hrel
  ·have e:a.toList.length=a.size:=rfl;rw[h3,h5];omega
 have hgt:∀b o,(H.put g (.cells cs 0 true)).get b=some o->(b=g/\o= .cells cs 0 true)∨(b≠g/\H.get b=some o):=fun b o hb=>by
  rw[AA.AU]at hb
  by_cases e:b=g
  ·rw[MB e]at hb;cases hb;exact .inl ⟨e,rfl⟩
  ·rw[JT e]at hb;exact .inr ⟨e,hb⟩
 obtain⟨φ,q⟩:=h.abs;have hne:∀b o T2,H.get b=some o->μ b=some T2->o.ro=false->¬o.void T2->T2.c≠T.c:=fun b o T2 hb hT hr hv e=>h.own b o hb hr T2 hT hv (by rw[e];exact hKT)
 refine⟨?_,?_,?_,?_,h.bound,h.size,h.below,h.out,h.os,⟨φ,?_,?_⟩,h.le,h.grow⟩
 ·intro b o hb T2 hT;rcases hgt b o hb with⟨rfl,rfl⟩ | ⟨_,hb⟩
  ·rw[h1]at hT;cases hT
   exact⟨_,haW,hor⟩
  ·exact h.obj b o hb T2 hT
 ·intro b o hb hr T2 hT hv;rcases hgt b o hb with⟨rfl,rfl⟩ | ⟨_,hb⟩
  ·cases hr
  ·exact h.own b o hb hr T2 hT hv
 ·intro b1 b2 o1 o2 hb1 hb2 T1 T2 m1 m2 v1 v2 hcc hr;rcases hgt b1 o1 hb1 with⟨rfl,rfl⟩ | ⟨n1,hq1⟩<;>rcases hgt b2 o2 hb2 with⟨rfl,rfl⟩ | ⟨n2,hq2⟩
  ·rfl
  ·rw[h1]at m1;cases m1
   rcases hr with hr | hr
   ·cases hr
   ·exact absurd hcc.symm (hne b2 o2 T2 hq2 m2 hr v2)
  ·rw[h1]at m2;cases m2
   rcases hr with hr | hr
   ·exact absurd hcc (hne b1 o1 T1 hq1 m1 hr v1)
   ·cases hr
  ·exact h.inj b1 b2 o1 o2 hq1 hq2 T1 T2 m1 m2 v1 v2 hcc hr
 ·intro b hb;obtain⟨f1,f2⟩:=h.fresh b hb;refine⟨?_,f2⟩;rw[AA.AU]
  by_cases e:b=g
  ·subst e;rw[h1]at f2;cases f2
  ·rw[JT e];exact f1
 ·intro b x ro T2 hb hT;rcases hgt b _ hb with⟨_,e⟩ | ⟨_,hb⟩
  ·cases e
  ·exact q.rep b x ro T2 hb hT
 ·intro b x ro T2 hb hT b2 o2 T3 hb2 hT3 hne2;rcases hgt b _ hb with⟨_,e⟩ | ⟨_,hq⟩
  ·cases e
  rcases hgt b2 o2 hb2 with⟨rfl,rfl⟩ | ⟨_,hb2⟩
  ·rw[h1]at hT3;cases hT3
   exact⟨fun _ hφ=>(q.rep b x ro T2 hq hT).2 (hro b x ro hq) _ hφ hKT,fun e=>(by cases e)⟩
  ·exact q.DG b x ro T2 hq hT b2 o2 T3 hb2 hT3 hne2
end
section
variable {X:Ctx} {N:Nat} {D:Nat->Prop} {f:FuncId} {Q:Ih}
theorem Ak.laid {t:Tr Value} {n:Nat} {code:Code} {H:AA} {g:Nat} {cs:AL} (hg:(g,cs)∈X.laid) (hro:∀b a ro,H.get b=some (.abs a ro)->ro=false)
 (h:Ak X N D f Q (Em f t n code (H.put g (.cells cs 0 true)))):Ak X N D f Q (Em f t n code H):=by
 intro base W0 hb0 hDm hok hplan cs0 μ fr cs1 W hm;obtain⟨hH,hlaid,g0,gs,hfr,hcs,hnd⟩:=hm;refine h base W0 hb0 hDm hok hplan cs0 μ fr cs1 W ⟨AJ.AAj hok.1 hlaid hH hg hro,hlaid,?_⟩;cases hcs
 cases hfr with
 | plain fn t n tm todo todo' ds ds' r kd rd rd' ht hi hd hr=>exact⟨[],[],.plain _ _ _ _ _ _ _ _ _ _ _ _ ht hi hd hr,.nil,by simp⟩
end
end Go.AD
namespace Go.AD
open Go.Proofs
def IP (t:xB):DZ:=⟨t.st.length,t.res,Fu t.st 0,Fu t.st 1,Fu t.st 2,Fu t.st 3,Fu t.st 4⟩
def Ql (t:DZ):LR:=[some (u4 t.n t.r),some (JP t.n t.b0),some (JP t.n t.b1),some (JP t.n t.b2),some (JP t.n t.b3),some (JP t.n t.b4)]
theorem je {ρ:Ren} {l:BN} (h:∀o∈l,BV ρ o=some o):∀(i:Nat) (p:AP),l[i]? = some p->∃q,l[i]? = some q/\BV ρ p=some q:=fun _ p hp=>⟨p,hp,h p (cA hp)⟩
def ij (t:DZ):BN:=[JP t.n t.b0,JP t.n t.b1,JP t.n t.b2,JP t.n t.b3,JP t.n t.b4]
theorem ko {ρ:Ren} {t:DZ}:∀o∈ij t,BV ρ o=some o:=fun o ho=>by
 unfold ij at ho;simp only[Ul,bG,vK]at ho;rcases ho with rfl | rfl | rfl | rfl | rfl<;>rfl
theorem NC (t:xB) (objs:BN) (hr:Bx (.tab t) objs):I6 t/\FB (DH ⟨.leaf,20⟩ [.abs (.pack (.tab t)) false]) 20 false objs (iC (IP t)) []:=by
 cases hr with
 | tab _ h=>
  refine⟨h,?_⟩;have:=GJ (N:=20) (s:= .tab t) (os:=[]) (o:= .cells [int t.st.length,int t.res,At 1,At 2,At 3,At 4,At 5] 0 false) (o1:=u4 t.st.length t.res) (ps:=ij (IP t)) (ps1:=ij (IP t)) rfl (by rfl) (je ko);have e:D7 ((DH ⟨.leaf,20⟩ [.abs (.pack (.tab t)) false]).put 20 (u4 t.st.length t.res)) (ij (IP t))=iC (IP t):=by kernel_rfl
  rw[e]at this;exact this
theorem dM {t:xB} {H:AA} (ht:I6 t) (h:wK.map H.get=Ql (IP t)):∃objs,Bx (.tab t) objs/\wK[0]? = some 20/\wK.Nodup/\(∀x∈wK,JW H [20] x)/\Ft wK H wK objs/\(∀o T,objs[0]? = some o->¬o.void T):=by
 unfold Ql at h;simp only[Sm,o6,Nh,iy]at h;obtain⟨g0,g1,g2,g3,g4,g5⟩:=h;refine⟨_,.tab t ht,rfl,by decide,fun x hx=>?_,⟨⟨_,g0,rfl,rfl,by rfl⟩,⟨_,g1,rfl,rfl,by rfl⟩,⟨_,g2,rfl,rfl,by rfl⟩,⟨_,g3,rfl,rfl,by rfl⟩,⟨_,g4,rfl,rfl,by rfl⟩,⟨_,g5,rfl,rfl,by rfl⟩,trivial⟩,fun o T ho=>by cases ho;exact id⟩;simp only[Ul,bG,vK]at hx;rcases hx with rfl | rfl | rfl | rfl | rfl | rfl
 ·exact .here (by simp)
 all_goals exact .next (.here (by simp)) g0 (by simp[IK,Au,At,u4])
theorem vU {j:Nat} {t:xB} {H:AA} {v:Value} (ht:I6 t) (h:wK.map H.get=Ql (IP t)) (hv:Cu 6 v=true):HV AI 20 j (.tab t) v [] v H:=by
 obtain⟨objs,q1,q2,q3,q4,q5,q6⟩:=dM ht h;exact Sc wK [] q1 rfl q2 q3 q4 q5 q6 dG (fun b hb=>by cases hb) (J8 6 v hv) trivial
theorem VE {f:FuncId} {args:AL} {t t':xB} {v:Value} {n:Nat} (hd:I6 t') (hv:Cu 6 v=true) (hq:CU j4 (Ax iA) [] f wK 21 (fun w os=>w=v/\os=Ql (IP t')) n (st f args (iC (IP t)))):
 Ak j4 21 (fun b=>20<=b/\b < 21) f (Told (fun b=>20<=b/\b < 21) fun w H=>HV AI 20 1 (.tab t') v [] w H) (st f args (iC (IP t))):=by
 refine Ak.mono (AX.Fh (BK QP.pf (by kernel_rfl) hq)) fun w H ⟨e,hos⟩=>?_
 subst e;simp only[Ql,Sm,sK,ic,Nh]at hos;obtain⟨g0,g1,g2,g3,g4,g5,_⟩:=hos;exact .here (vU hd (by simp only[Ql,Sm,o6,g0,g1,g2,g3,g4,g5]) hv)
def IT (t:xB) (k:Nat):Bool:=decide (k∈t.st)
def Bo (t:xB) (k:Nat):Int:=(Ly t.st k:Nat)
def JB (t:xB) (k:Nat):Int:=(TS t.st k:Nat)
def BG (t:xB) (i:Int):Nat:=t.st.getD i.toNat 0
def A6 (t:xB) (i:Int) (s:Nat):xB:=⟨t.res,t.st.set i.toNat s⟩
theorem P7 {t:xB} (h:I6 t) (k:Nat):WE t.st.length (Fu t.st k):=⟨by have:=h.l0;omega,by have:=h.l1;omega,by omega,by have:=tv h.l1 k;omega⟩
theorem bV {t:xB} (h:I6 t) (k:Nat) {i:Int} (h0:0<=i) (h1:i < t.st.length):LO t.st.length (Fu t.st k) i:=⟨P7 h k,h0,h1⟩
theorem UQ {t:xB} (k:Nat):((Fu t.st k:Int)==0)= !IT t k:=by
 unfold IT
 by_cases h:k∈t.st
 ·rw[KE h];have h2:Fu t.st k≠0:=fun e=>(KN t.st k).1 e h
  exact oH.2 (by omega)
 ·rw[MC h];have:=(KN t.st k).2 h;rw[this];rfl
theorem Ut {t:xB} (k:Nat) {i:Int} (h0:0<=i) (h1:i < t.st.length):hasB (Fu t.st k) i=Nat.beq (BG t i) k:=by
 unfold hasB BG;rw[MG,cg t.st k i.toNat (by omega)];cases Nat.beq (t.st.getD i.toNat 0) k<;>rfl
theorem JQ {a b:Nat} (h:a≠b):Nat.beq a b=false:=by
 cases hb:Nat.beq a b
 ·rfl
 ·exact absurd (DN hb) h
theorem kR {t:xB} {k:Nat} {i:Int} (h0:0<=i) (h1:i < t.st.length) (hk:BG t i≠k):L1 (Fu t.st k) i=Fu (A6 t i k).st k:=by
 have h:=Oc t.st k i.toNat k (by omega);unfold L1;rw[Ut k h0 h1,JQ hk,EB];have hk':Nat.beq (t.st.getD i.toNat 0) k=false:=JQ hk;rw[hk',VX,EB,C8]at h;show(Fu t.st k:Int)+2 ^ i.toNat=(Fu (t.st.set i.toNat k) k:Int);have e:((2:Int) ^ i.toNat)=((2 ^ i.toNat:Nat):Int):=by rw[ABY];rfl
 rw[e];omega
theorem jP {t:xB} {k s:Nat} {i:Int} (h0:0<=i) (h1:i < t.st.length) (hk:BG t i=k) (hs:s≠k):MJ (Fu t.st k) i=Fu (A6 t i s).st k:=by
 have h:=Oc t.st k i.toNat s (by omega);unfold MJ;rw[Ut k h0 h1,hk,VX,C8];have hk':t.st.getD i.toNat 0=k:=hk;rw[hk',VX,JQ hs,EB,C8]at h;show(Fu t.st k:Int) - 2 ^ i.toNat=(Fu (t.st.set i.toNat s) k:Int);have e:((2:Int) ^ i.toNat)=((2 ^ i.toNat:Nat):Int):=by rw[ABY];rfl
 rw[e];omega
theorem Vj {t:xB} {k s:Nat} {i:Int} (h0:0<=i) (h1:i < t.st.length) (hk:BG t i≠k) (hs:s≠k):Fu t.st k=Fu (A6 t i s).st k:=by
 have h:=Oc t.st k i.toNat s (by omega);have hk':Nat.beq (t.st.getD i.toNat 0) k=false:=JQ hk;rw[hk',JQ hs,EB]at h;exact h.symm
theorem OQ {t:xB} (h:I6 t) {a b:Nat} (hb:b<=4) (hab:a≠b) {i:Int} (h0:0<=i) (h1:i < t.st.length) (ha:BG t i=a):I6 (A6 t i b)/\
 (∀k,Fu (A6 t i b).st k=if k=b then(L1 (Fu t.st k) i).toNat else if k=a then(MJ (Fu t.st k) i).toNat else Fu t.st k)/\(L1 (Fu t.st b) i=Fu (A6 t i b).st b/\MJ (Fu t.st a) i=Fu (A6 t i b).st a):=by
 have e1:=kR (t:=t) (k:=b) h0 h1 (by omega);have e2:=jP (t:=t) (k:=a) (s:=b) h0 h1 ha (gi hab);refine⟨⟨by show 0 < (t.st.set _ _).length;rw[SB];exact h.l0,by show(t.st.set _ _).length<=9;rw[SB];exact h.l1,fun s hs=>?_,h.r0,h.r1⟩,fun k=>?_,e1,e2⟩
 ·rcases yk hs with hs | hs
  ·exact h.s4 s hs
  ·omega
 ·split
  ·rename_i e;subst e;rw[e1];rfl
  ·split
   ·rename_i e;subst e;rw[e2];rfl
   ·rename_i n1 n2;exact(Vj h0 h1 (by omega) (by omega)).symm
theorem WN {t:xB} {i:Int} {s:Nat}:(A6 t i s).st.length=t.st.length:=SB ..
theorem WL {t:xB} (h:I6 t) {k:Nat} (hk:IT t k=true):Zk (Int.toNat (Fu t.st k:Nat))=Bo t k/\0<=Bo t k/\Bo t k < t.st.length/\BG t (Bo t k)=k:=by
 have hm:k∈t.st:=rM hk;obtain⟨h1,h2⟩:=cK hm;exact⟨by rw[MG];exact qe hm h.l1,by unfold Bo;omega,by unfold Bo;omega,h2⟩
theorem O8 {t:xB} (h:I6 t) (k:Nat):Ld (Int.toNat (Fu t.st k:Nat))=JB t k:=by rw[MG];exact kb k h.l1
theorem Yy:∀{l:AW} {k:Nat},0 < TS l k ↔ k∈l
 | [],k=>by simp[TS]
 | s::r,k=>by
  unfold TS;cases hb:Nat.beq s k
  ·have hs:s≠k:=fun e=>by rw[e,VX]at hb;cases hb
   rw[EB,RP,Yy (l:=r),Ul];exact⟨.inr,fun h=>h.resolve_left (gi hs)⟩
  ·have hs:=DN hb;rw[C8];exact⟨fun _=>hs ▸ nB ..,fun _=>by omega⟩
theorem Oo (t:xB) (k:Nat):IT t k=decide (JB t k > 0):=by
 unfold IT JB
 by_cases h:k∈t.st
 ·rw[KE h,KE (by have:=Yy.2 h;omega)]
 ·rw[MC h,MC (by have h2:¬0 < TS t.st k:=fun e=>h (Yy.1 e);omega)]
def PJ:Gk:=fun p rest os=>match p,rest,os with
 | .tab t,[.int .i64 1],[]=> .test (IT t 1) (.ret ⟨.tuple ⟨[int (Bo t 1),.bool true]⟩,.tab t,[]⟩) (.ret ⟨.tuple ⟨[int 0,.bool false]⟩,.tab t,[]⟩)
 | _,_,_=> .fail
theorem NJ:CY Tryz.prog AI Dm (Ai AI 20 [true] (CX 20 PJ)):=by
 refine Ek QP.all (by kernel_rfl) (by kernel_rfl) (n:=BD Dm) (by kernel_rfl) (fun _=>rfl) fun p rest os=>?_
 unfold PJ;split
 ·rename_i t;refine .test (fun hc=>?_) fun hc=>?_
  all_goals
   refine⟨BE (by kernel_rfl),fun objs hr=>?_⟩;obtain⟨hd,ho⟩:=NC t objs hr;have hl:(0:Int) < t.st.length:=by have:=hd.l0;omega
   refine⟨_,ho,VE (n:=200) hd rfl ?_⟩
  ·refine(TN (IP t) _).mpr ⟨hl,P7 hd 1,AZ (by show((Fu t.st 1:Int)==0)=false;rw[UQ,hc];rfl) ⟨?_,rfl⟩⟩;show Value.tuple ⟨[int (Zk (Int.toNat (Fu t.st 1:Nat))),_]⟩=_;rw[(WL hd hc).1]
  ·exact(TN (IP t) _).mpr ⟨hl,P7 hd 1,AB (by show((Fu t.st 1:Int)==0)=true;rw[UQ,hc];rfl) ⟨rfl,rfl⟩⟩
 ·trivial
def Xn:Gk:=fun p rest os=>match p,rest,os with
 | .tab t,[],[]=> .ret ⟨int (JB t 0),.tab t,[]⟩
 | _,_,_=> .fail
theorem gH:CY Tryz.prog AI F5 (Ai AI 20 [true] (CX 20 Xn)):=by
 refine Ek QP.all (by kernel_rfl) (by kernel_rfl) (n:=BD F5) (by kernel_rfl) (fun _=>rfl) fun p rest os=>?_
 unfold Xn;split
 ·rename_i t;refine⟨BE (by kernel_rfl),fun objs hr=>?_⟩;obtain⟨hd,ho⟩:=NC t objs hr;refine⟨_,ho,VE (n:=200) hd rfl ((ny (IP t) _).mpr ⟨by show(0:Int) < t.st.length;have:=hd.l0;omega,P7 hd 0,?_,rfl⟩)⟩;show int (Ld (Int.toNat (Fu t.st 0:Nat)))=_;rw[O8 hd]
 ·trivial
def Tv:Gk:=fun p rest os=>match p,rest,os with
 | .tab t,[],[]=> .ret ⟨.tuple ⟨[int t.st.length,int t.res]⟩,.tab t,[]⟩
 | _,_,_=> .fail
theorem Xr:CY Tryz.prog AI Fp (Ai AI 20 [true] (CX 20 Tv)):=by
 refine Ek QP.all (by kernel_rfl) (by kernel_rfl) (n:=BD Fp) (by kernel_rfl) (fun _=>rfl) fun p rest os=>?_
 unfold Tv;split
 ·rename_i t;refine⟨BE (by kernel_rfl),fun objs hr=>?_⟩;obtain⟨hd,ho⟩:=NC t objs hr;exact⟨_,ho,VE (n:=200) hd rfl ((fh (IP t) _).mpr ⟨by show(0:Int) < t.st.length;have:=hd.l0;omega,rfl,rfl,rfl,rfl,rfl,rfl⟩)⟩
 ·trivial
def LW (t:xB):Int × Int:=bif IT t 1 then(0,6)else bif decide (JB t 0<=t.res)then(0,11)else(Bo t 0,0)
def Mh (t:xB):xB:=bif IT t 1 then t else bif decide (JB t 0<=t.res)then t else A6 t (Bo t 0) 1
def Xu:Gk:=fun p rest os=>match p,rest,os with
 | .tab t,[],[]=> .ret ⟨DE (LW t).1 (LW t).2,.tab (Mh t),[]⟩
 | _,_,_=> .fail
theorem zL {t:xB} (h:I6 t):I6 (Mh t):=by
 unfold Mh;cases IT t 1
 ·cases hc:decide (JB t 0<=t.res)
  ·have h0:IT t 0=true:=by rw[Oo];exact KE (by have:=of_decide_eq_false hc;have:=h.r0;omega)
   obtain⟨_,a1,a2,a3⟩:=WL h h0;exact(OQ h (by decide) (by decide) a1 a2 a3).1
  ·exact h
 ·exact h
theorem eB:CY Tryz.prog AI Dj (Ai AI 20 [true] (CX 20 Xu)):=by
 refine Ek QP.all (by kernel_rfl) (by kernel_rfl) (n:=BD Dj) (by kernel_rfl) (fun _=>rfl) fun p rest os=>?_
 unfold Xu;split
 ·rename_i t;refine⟨BE (by kernel_rfl),fun objs hr=>?_⟩;obtain⟨hd,ho⟩:=NC t objs hr;have hl:(0:Int) < t.st.length:=by have:=hd.l0;omega
  refine⟨_,ho,VE (n:=400) (zL hd) rfl ((lp (IP t) _).mpr ⟨hl,P7 hd 1,?_⟩)⟩;have e1:decide (Ld (Int.toNat (Fu t.st 1:Nat)) > 0)=IT t 1:=by rw[O8 hd,Oo]
  have e2:Ld (Int.toNat (Fu t.st 0:Nat))=JB t 0:=O8 hd 0;show bif decide (Ld (Int.toNat (Fu t.st 1:Nat)) > 0)then _ else _
  rw[e1];cases hc:IT t 1
  ·refine⟨hl,P7 hd 0,rfl,rfl,rfl,rfl,?_⟩;show bif decide (Ld (Int.toNat (Fu t.st 0:Nat))<=t.res)then _ else _
   rw[e2];cases hc2:decide (JB t 0<=t.res)
   ·have h0:IT t 0=true:=by rw[Oo];exact KE (by have:=of_decide_eq_false hc2;have:=hd.r0;omega)
    obtain⟨a0,a1,a2,a3⟩:=WL hd h0;refine⟨P7 hd 0,AZ (by show((Fu t.st 0:Int)==0)=false;rw[UQ,h0];rfl) ?_⟩;obtain⟨b1,b2,b3,b4⟩:=OQ hd (a:=0) (b:=1) (by decide) (by decide) a1 a2 a3;have a0:Zk (Int.toNat ((IP t).b0))=Bo t 0:=a0;rw[a0];refine⟨bV hd 0 a1 a2,bV hd 1 a1 a2,?_,?_⟩
    ·unfold LW;rw[hc,hc2];rfl
    ·have e:Mh t=A6 t (Bo t 0) 1:=by unfold Mh;rw[hc,hc2];rfl
     rw[e];show [_,some (JP t.st.length (MJ (Fu t.st 0) (Bo t 0))),some (JP t.st.length (L1 (Fu t.st 1) (Bo t 0))),some (JP t.st.length (Fu t.st 2)),some (JP t.st.length (Fu t.st 3)),some (JP t.st.length (Fu t.st 4))]=Ql (IP (A6 t (Bo t 0) 1));rw[b4,b3];have c2:=b2 2;have c3:=b2 3;have c4:=b2 4;rw[JT (by decide),JT (by decide)]at c2 c3 c4;unfold Ql IP;rw[c2,c3,c4,WN];rfl
   ·refine⟨?_,?_⟩
    ·unfold LW;rw[hc,hc2];rfl
    ·unfold Mh;rw[hc,hc2];rfl
  ·refine⟨?_,?_⟩
   ·unfold LW;rw[hc];rfl
   ·unfold Mh;rw[hc];rfl
 ·trivial
def bK:Gk:=fun p rest os=>match p,rest,os with
 | .tab t,[.int .i64 i],[]=> .test (decide (0<=i)&&decide (i < t.st.length)) (.ret ⟨DE (BG t i:Nat) 0,.tab t,[]⟩) (.ret ⟨DE 0 3,.tab t,[]⟩)
 | _,_,_=> .fail
theorem sF {t:xB} (h:I6 t) (i:Int):BG t i<=4:=by
 unfold BG;rw[Kd];cases hg:t.st[i.toNat]? with
 | none=>exact ay _
 | some s=>exact h.s4 s (cA hg)
theorem WQ {a:Nat} (h:a<=4):a=0∨a=1∨a=2∨a=3∨a=4:=by omega
theorem y4:CY Tryz.prog AI Hq (Ai AI 20 [true] (CX 20 bK)):=by
 refine Ek QP.all (by kernel_rfl) (by kernel_rfl) (n:=BD Hq) (by kernel_rfl) (fun _=>rfl) fun p rest os=>?_
 unfold bK;split
 ·rename_i t i;refine .test (fun hc=>?_) fun hc=>?_
  all_goals
   refine⟨BE (by kernel_rfl),fun objs hr=>?_⟩;obtain⟨hd,ho⟩:=NC t objs hr;have hl:(0:Int) < t.st.length:=by have:=hd.l0;omega
   refine⟨_,ho,VE (n:=1000) hd rfl ((eW (IP t) i _).mpr ⟨hl,?_⟩)⟩
  ·simp only[Dg,TL]at hc;obtain⟨h0,h1⟩:=hc;refine AZ (MC (by omega)) (AZ (MC (by show ¬i≥(t.st.length:Int);omega)) ?_);have e:=fun k=>Ut (t:=t) k h0 h1
   have e0:hasB (DZ.b0 (IP t)) i=_:=e 0;have e1:hasB (DZ.b1 (IP t)) i=_:=e 1;have e2:hasB (DZ.b2 (IP t)) i=_:=e 2;have e3:hasB (DZ.b3 (IP t)) i=_:=e 3;have e4:hasB (DZ.b4 (IP t)) i=_:=e 4;rw[e0,e1,e2,e3,e4];have s:=fun k=>bV hd k h0 h1
   rcases WQ (sF hd i)with ha | ha | ha | ha | ha
   all_goals rw[ha]
   ·exact⟨s 0,rfl,rfl⟩
   ·exact⟨s 0,s 1,rfl,rfl⟩
   ·exact⟨s 0,s 1,s 2,rfl,rfl⟩
   ·exact⟨s 0,s 1,s 2,s 3,rfl,rfl⟩
   ·exact⟨s 0,s 1,s 2,s 3,s 4,rfl,rfl⟩
  ·refine AY (fun _=>⟨rfl,rfl⟩) fun h0=>AY (fun _=>⟨rfl,rfl⟩) fun h1=>?_
   have h1:¬i≥(t.st.length:Int):=h1;rw[KE (show 0<=i by omega),KE (show i < (t.st.length:Int) by omega)]at hc;cases hc
 ·trivial
structure qj (t:xB) (i:Int):Prop where
 i0:0<=i
 i1:i < t.st.length
 at_:BG t i=1∨BG t i=4
def Yr:Gk:=fun p rest os=>match p,rest,os with
 | .tab t,[.int .i64 i],[]=> .ask (qj t i) (.ret ⟨int 0,.tab (A6 t i 2),[]⟩)
 | _,_,_=> .fail
theorem eL:CY Tryz.prog AI D3 (Ai AI 20 [true] (CX 20 Yr)):=by
 refine Ek QP.all (by kernel_rfl) (by kernel_rfl) (n:=BD D3) (by kernel_rfl) (fun _=>rfl) fun p rest os=>?_
 unfold Yr;split
 ·rename_i t i;rintro⟨h0,h1,ha⟩;refine⟨BE (by kernel_rfl),fun objs hr=>?_⟩;obtain⟨hd,ho⟩:=NC t objs hr;have hl:(0:Int) < t.st.length:=by have:=hd.l0;omega
  have hd2:I6 (A6 t i 2):=by
   rcases ha with ha | ha
   ·exact(OQ hd (by decide) (by decide) h0 h1 ha).1
   ·exact(OQ hd (by decide) (by decide) h0 h1 ha).1
  refine⟨_,ho,Ak.laid (g:=0) (cs:=[.bool false,.bool true,.bool false,.bool false,.bool true,.int .i64 2]) (nB ..) (fun b a ro hb=>?_) ?_⟩
  ·have hb:(iC (IP t)).get b=some (.abs a ro):=hb;unfold iC hp at hb;rw[Fc]at hb;simp only at hb;split at hb
   ·cases hb
   ·match h2:b - 20,hb with
    | 0,hb=>cases hb
    | 1,hb=>cases hb
    | 2,hb=>cases hb
    | 3,hb=>cases hb
    | 4,hb=>cases hb
    | 5,hb=>cases hb
    | j+6,hb=>cases hb
  ·have hv:CU j4 (Ax iA) [] D3 wK 21 (fun w os=>w=int 0/\os=Ql (IP (A6 t i 2))) 1000 (st D3 [At 20,int i] (tbL uK (IP t))):=by
    refine(nZ (IP t) i _).mpr ⟨hl,?_⟩;refine AZ (MC (by omega)) (AZ (MC (by show ¬i≥(t.st.length:Int);omega)) ?_);have e:=fun k=>Ut (t:=t) k h0 h1
    have e0:hasB (DZ.b0 (IP t)) i=_:=e 0;have e1:hasB (DZ.b1 (IP t)) i=_:=e 1;have e2:hasB (DZ.b2 (IP t)) i=_:=e 2;have e3:hasB (DZ.b3 (IP t)) i=_:=e 3;have e4:hasB (DZ.b4 (IP t)) i=_:=e 4;rw[e0,e1,e2,e3,e4];have s:=fun k=>bV hd k h0 h1
    rcases ha with ha | ha
    ·obtain⟨-,b2,b3,b4⟩:=OQ hd (a:=1) (b:=2) (by decide) (by decide) h0 h1 ha;rw[ha];refine⟨s 0,s 1,s 1,s 2,rfl,?_⟩;show [_,some (JP t.st.length (Fu t.st 0)),some (JP t.st.length (MJ (Fu t.st 1) i)),some (JP t.st.length (L1 (Fu t.st 2) i)),some (JP t.st.length (Fu t.st 3)),some (JP t.st.length (Fu t.st 4))]=Ql (IP (A6 t i 2));rw[b4,b3];have c0:=b2 0;have c3:=b2 3;have c4:=b2 4;rw[JT (by decide),JT (by decide)]at c0 c3 c4;unfold Ql IP;rw[c0,c3,c4,WN];rfl
    ·obtain⟨-,b2,b3,b4⟩:=OQ hd (a:=4) (b:=2) (by decide) (by decide) h0 h1 ha;rw[ha];refine⟨s 0,s 1,s 2,s 3,s 4,s 4,s 2,rfl,?_⟩;show [_,some (JP t.st.length (Fu t.st 0)),some (JP t.st.length (Fu t.st 1)),some (JP t.st.length (L1 (Fu t.st 2) i)),some (JP t.st.length (Fu t.st 3)),some (JP t.st.length (MJ (Fu t.st 4) i))]=Ql (IP (A6 t i 2));rw[b4,b3];have c0:=b2 0;have c1:=b2 1;have c3:=b2 3;rw[JT (by decide),JT (by decide)]at c0 c1 c3;unfold Ql IP;rw[c0,c1,c3,WN];rfl
   refine Ak.mono (AX.Fh (BK QP.pf (by kernel_rfl) hv)) fun w H ⟨e,hos⟩=>?_
   subst e;simp only[Ql,Sm,sK,ic,Nh]at hos;obtain⟨g0,g1,g2,g3,g4,g5,_⟩:=hos;exact .here (vU hd2 (by simp only[Ql,Sm,o6,g0,g1,g2,g3,g4,g5]) rfl)
 ·trivial
def tnE:Nat->Int->Int->Int->(Int->Prop)->Prop
 | 0,_,_,b,K=>K b
 | k+1,n,i,b,K=>LO n b i/\tnE k n (i+1) (L1 b i) K
theorem sJ {n:Nat} (h4:4<=n) (h9:n<=9) (r:Int) (Q:Bm):CU j4 (Ax iA) [] bH wK 20 Q 3000 (st bH [int n,int r] (hp []))=
 (bif decide (r < 0)then Q (.tuple ⟨[.pointer none,int 2]⟩) [none,none,none,none,none,none]
 else bif decide (r > (n:Int))then Q (.tuple ⟨[.pointer none,int 2]⟩) [none,none,none,none,none,none]
 else((0:Int) < n/\(n:Int)<=9)/\((0:Int) < n/\(n:Int)<=9)/\((0:Int) < n/\(n:Int)<=9)/\((0:Int) < n/\(n:Int)<=9)/\((0:Int) < n/\(n:Int)<=9)/\
  tnE n n 0 0 fun b=>Q (.tuple ⟨[At 20,int 0]⟩) [some (u4 n r),some (JP n b),some (JP n 0),some (JP n 0),some (JP n 0),some (JP n 0),some (u4 n r)]):=by
 match n,h4,h9 with
 | 4,_,_=>show _=_;kernel_rfl
 | 5,_,_=>show _=_;kernel_rfl
 | 6,_,_=>show _=_;kernel_rfl
 | 7,_,_=>show _=_;kernel_rfl
 | 8,_,_=>show _=_;kernel_rfl
 | 9,_,_=>show _=_;kernel_rfl
 | n+10,_,h=>exact absurd h (by omega)
theorem qv {i:Nat}:L1 (((2 ^ i - 1:Nat):Int)) (i:Nat)=((2 ^ (i+1) - 1:Nat):Int):=by
 unfold L1 hasB;have hp:0 < 2 ^ i:=ABm (by decide);rw[MG,MG,Nat.div_eq_of_lt (by omega)];show((2 ^ i - 1:Nat):Int)+2 ^ i=_;have e:((2:Int) ^ i)=((2 ^ i:Nat):Int):=by rw[ABY];rfl
 rw[e,AAc];omega
theorem jM {n:Nat} (h9:n<=9) {K:Int->Prop} (hK:K ((2 ^ n - 1:Nat):Int)):∀(k i:Nat),i+k=n->tnE k n (i:Nat) ((2 ^ i - 1:Nat):Int) K
 | 0,i,h=>by
  have e:i=n:=by omega
  subst e;exact hK
 | k+1,i,h=>by
  have h2:2 ^ i<=2 ^ 8:=ABd (by decide) (by omega);have h3:2 ^ 8=256:=rfl;refine⟨⟨⟨by omega,by omega,by omega,by omega⟩,by omega,by omega⟩,?_⟩;rw[qv];exact jM h9 hK k (i+1) (by omega)
theorem qZ (n:Nat):Fu (List.replicate n 0) 0=2 ^ n - 1:=by
 induction n with
 | zero=>rfl
 | succ n ih=>
  show 1+2 * Fu (List.replicate n 0) 0=_;have hp:0 < 2 ^ n:=ABm (by decide);rw[ih,AAc];omega
theorem Mr (n k:Nat) (hk:k≠0):Fu (List.replicate n 0) k=0:=(KN _ _).2 fun h=>hk (AAx h)
def NN (n r:Int):xB:=⟨r,List.replicate n.toNat 0⟩
def lY (args:AL) (objs:BN):GT:=match args,objs with
 | [.int .i64 n,.int .i64 r],[]=> .ask (4<=n/\n<=9/\0<=r/\r<=n) (.ret ⟨.tuple ⟨[At 20,int 0]⟩,[],[.abs (.pack (.tab (NN n r))) false]⟩)
 | _,_=> .fail
theorem Z5 {n r:Int} (h4:4<=n) (h9:n<=9) (h0:0<=r) (h1:r<=n):I6 (NN n r):=⟨by show 0 < (List.replicate _ _).length;rw[YC];omega,by show(List.replicate _ _).length<=9;rw[YC];omega,fun s hs=>by rw[AAx hs];decide,h0,by show r<=9;omega⟩
theorem jk:CY Tryz.prog AI bH (Ai AI 20 [] lY):=by
 refine BF QP.all (by kernel_rfl) (n:=BD bH) (by kernel_rfl) (by kernel_rfl) fun argsc objs x hx hro=>?_
 clear hro;unfold lY at hx;split at hx
 ·rename_i n r;refine⟨BE (by kernel_rfl),Ak.OE ?_⟩;simp only[GT.run]at hx;split at hx
  ·rename_i h;cases hx
   obtain⟨h4,h9,h0,h1⟩:=h;obtain⟨m,rfl⟩:=jc (show 0<=n by omega);have ht:=Z5 h4 h9 h0 h1;have hn:(0:Int) < m/\(m:Int)<=9:=⟨by omega,by omega⟩;have hv:CU j4 (Ax iA) [] bH wK 20 (fun v os=>v= .tuple ⟨[At 20,int 0]⟩/\os=Ql (IP (NN m r))++[some (u4 m r)]) 3000 (st bH [int m,int r] (hp [])):=by
    rw[sJ (by omega) (by omega)];refine AZ (MC (by omega)) (AZ (MC (by omega)) ⟨hn,hn,hn,hn,hn,?_⟩);refine jM (by omega) ?_ m 0 (by omega);refine⟨rfl,?_⟩;unfold Ql IP NN;simp only[MG,YC,qZ,Mr m 1 (by decide),Mr m 2 (by decide),Mr m 3 (by decide),Mr m 4 (by decide)];rfl
   refine Ak.mono (AX.Fh (BK QP.pf (by kernel_rfl) hv)) fun v H ⟨e,hos⟩=>?_
   subst e;have hos:wK.map H.get++[H.get 20]=_:=hos;simp only[Ql,Sm,o6,sK,ic,Nh,iy]at hos;obtain⟨g0,g1,g2,g3,g4,g5,_⟩:=hos;obtain⟨objs,q1,q2,q3,q4,q5,q6⟩:=dM ht (show wK.map H.get=Ql (IP (NN m r)) by simp only[Ql,Sm,o6,g0,g1,g2,g3,g4,g5]);refine Told.pO wK q1 rfl q2 (.inl (by simp[Au,At])) q3 q4 q5 q6 fun H2 _ g=> .here ?_
   refine⟨[20],by decide,fun b hb=>by rw[Q4]at hb;rw[hb];exact GO _,rfl,rfl,fun j b o hb ho=>?_,fun j o hj=>(by cases hj)⟩;cases j with
   | zero=>cases hb;cases ho;exact⟨_,rfl,g⟩
   | succ j=>cases hb
  ·cases hx
 ·cases hx
structure WI (s k a b q:Int):Prop where
 s0:0<=s
 s1:s < 4294967296
 hk:k=3
 ha:a=0
 b0:0<=b
 b1:b<=65535
 q0:0<=q
 q1:q<=1099511627776
theorem pC {s k a b q:Int} (h:WI s k a b q):CU ym (Ax xh) [] C9 [] 20 (fun v os=>v= .tuple ⟨[Ao 33 16,int 0]⟩/\os=[some (.vec kB (UD s k a b q) false)]) 3000 (st C9 [.agg ⟨[.int .u32 s,int k,int a,int b,int q]⟩] (hp [])):=by
 obtain⟨s0,s1,rfl,rfl,b0,b1,q0,q1⟩:=h;have c1:Ti 4 (IM s 4) 3 1:=⟨(JX s 4).symm,by decide,.inl rfl,wV (by omega) (by omega)⟩;have c2:Ti 5 (IM s 4++IM 3 1) 0 1:=⟨by simp only[Pq,JX],by decide,.inl rfl,wV (by omega) (by omega)⟩;have c3:Ti 6 (IM s 4++IM 3 1++IM 0 1) b 2:=⟨by simp only[Pq,JX],by decide,.inr (.inl rfl),ya (by omega) (by omega)⟩;have c4:Ti 8 (IM s 4++IM 3 1++IM 0 1++IM b 2) q 8:=⟨by simp only[Pq,JX],by decide,.inr (.inr rfl),rfl⟩;have c0:Ro s 4=true:=xw s0 s1;rw[ua];(conv=>zeta);rw[M9 (x:=s) (by omega) (by omega),M9 (x:=b) (by omega) (by omega),M9 (x:=q) (by omega) (by omega)]
 refine AZ rfl (AZ rfl (AB rfl ?_));exact AB rfl (AB rfl (AB (KE b0) (AB (KE b1) (AB (KE q0) (AB (KE q1) ⟨c0,c1,c2,c3,c4,rfl,rfl⟩)))))
def xf (args:AL) (objs:BN):GT:=match args,objs with
 | [.agg ⟨[.int .u32 s,.int .i64 k,.int .i64 a,.int .i64 b,.int .i64 q]⟩],[]=> .ask (WI s k a b q) (.ret ⟨.tuple ⟨[Ao 20 16,int 0]⟩,[],[.vec kB (UD s k a b q) false]⟩)
 | _,_=> .fail
theorem qO:CY Tryz.prog AI C9 (Ai AI 20 [] xf):=by
 refine BF vL.all (by kernel_rfl) (n:=BD C9) (by kernel_rfl) (by kernel_rfl) fun argsc objs x hx hro=>?_
 clear hro;unfold xf at hx;split at hx
 ·rename_i s k a b q;simp only[GT.run]at hx;split at hx
  ·rename_i h;cases hx
   refine⟨BE (by kernel_rfl),Ak.mono (AX.Fh (BK vL.pf (by kernel_rfl) (pC h))) fun v H ⟨e,hos⟩=>?_⟩;subst e;have hos:[H.get 33]=_:=hos;simp only[Nh,iy]at hos;exact Rm (by decide) hos
  ·cases hx
 ·cases hx
def cFt:List GA:=[GQ C9 [] xf,GQ F3 [] pD]
theorem zt:Ci cFt:= .cons qO (.cons Zy .nil)
abbrev XFt:Ctx:=Bp Tryz.prog AI (Cv cFt)
theorem xD (c q:Int) (Q:Bm):CU XFt (Ax cFt) [] FI [] 20 Q 900 (st FI [.agg ⟨[int c,int q]⟩] (hp []))=(
 let e:=UD 0 3 0 c q;let b:=Er 0 (List.take 12 (List.drop 4 e));let d:Prop:=Q (.tuple ⟨[(Ao 24 16),(int 0)]⟩) [some (.vec ([SK.int IntKind.u8]) (UD b 3 0 c q) false)];let a:Prop:=Q (.tuple ⟨[(.slice none 0 0),(int 2)]⟩) [];(bif decide (c < 0)then a else(bif decide (c > 65535)then a else(bif decide (q < 0)then a else(bif decide (q > 1099511627776)then a else(bif c==0 then(bif q==0 then(WI 0 3 0 c q)/\(16<=e.length/\12 < 1000000)/\(WI b 3 0 c q)/\d else a)else(bif q==0 then a else(WI 0 3 0 c q)/\(16<=e.length/\12 < 1000000)/\(WI b 3 0 c q)/\d))))))):=by kernel_rfl
structure nj (c q:Int):Prop where
 c0:0<=c
 c1:c<=65535
 q0:0<=q
 q1:q<=1099511627776
 z:c=0 ↔ q=0
def bO (c q:Int):Int:=Er 0 (List.take 12 (List.drop 4 (UD 0 3 0 c q)))
def vQ (c q:Int):Ad:=UD (bO c q) 3 0 c q
theorem Te (c q:Int):(vQ c q).length=16:=LJ ..
theorem wu {c q:Int} (h:nj c q):CU XFt (Ax cFt) [] FI [] 20 (fun v os=>v= .tuple ⟨[Ao 24 16,int 0]⟩/\os=[some (.vec kB (vQ c q) false)]) 900 (st FI [.agg ⟨[int c,int q]⟩] (hp [])):=by
 obtain⟨c0,c1,q0,q1,z⟩:=h;have hb:(0:Int)<=bO c q/\bO c q < 4294967296:=aA _ _;have h0:WI 0 3 0 c q:=⟨by decide,by decide,rfl,rfl,c0,c1,q0,q1⟩;have h1:WI (bO c q) 3 0 c q:=⟨hb.1,hb.2,rfl,rfl,c0,c1,q0,q1⟩;have hl:16<=(UD 0 3 0 c q).length/\12 < 1000000:=⟨by rw[LJ];exact GO _,by decide⟩;rw[xD];refine AZ (MC (by omega)) (AZ (MC (by omega)) (AZ (MC (by omega)) (AZ (MC (by omega)) ?_)))
 by_cases hc:c=0
 ·have hq:=z.1 hc;exact AB (by rw[hc];rfl) (AB (by rw[hq];rfl) ⟨h0,hl,h1,rfl,rfl⟩)
 ·have hq:=fun e=>hc (z.2 e)
  exact AZ (oH.2 hc) (AZ (oH.2 hq) ⟨h0,hl,h1,rfl,rfl⟩)
def ftG (args:AL) (objs:BN):GT:=match args,objs with
 | [.agg ⟨[.int .i64 c,.int .i64 q]⟩],[]=> .ask (nj c q) (.ret ⟨.tuple ⟨[Ao 20 16,int 0]⟩,[],[.vec kB (vQ c q) false]⟩)
 | _,_=> .fail
theorem tD:CY Tryz.prog AI FI (Ai AI 20 [] ftG):=by
 refine BF zt.all (by kernel_rfl) (n:=BD FI) (by kernel_rfl) (by kernel_rfl) fun argsc objs x hx hro=>?_
 clear hro;unfold ftG at hx;split at hx
 ·rename_i c q;simp only[GT.run]at hx;split at hx
  ·rename_i h;cases hx
   refine⟨BE (by kernel_rfl),Ak.mono (AX.Fh (BK zt.pf (by kernel_rfl) (wu h))) fun v H ⟨e,hos⟩=>?_⟩;subst e;have hos:[H.get 24]=_:=hos;simp only[Nh,iy]at hos;exact Rm (by decide) hos
  ·cases hx
 ·cases hx
def cPs:List GA:=[(BZ,Rq,Vx)]
theorem zY:Ci cPs:= .other Qy R4 .nil
abbrev uX:Ctx:=Bp Tryz.prog AI (Cv cPs)
def zC (c:GP) (nx:Int) (ro:Bool):AP:= .cells [int c.n,int c.z,int c.r,int c.w,int c.k,int c.v,int c.p,At 21,At 22,At 23,int nx] 0 ro
def L4 (c:GP) (nx:Int) (d:Ab) (t:xB):BN:=[zC c nx true,.abs (.pack (.dev d)) false,.abs (.pack (.tab t)) false]
def vP (ns nk:Nat) (row:List (EK.C [.tok])) (krow:Cq) (LS LK:FZ) (ls:Aw):BN:=[.cells [At 24,Ao 25 ns] 0 false,.cells [.bool true,Ao 26 nk] 0 false,.vec [.tok] row false,.vec EV krow false,.abs (.mem Ah LS) false,.abs (.mem Ah LK) false,.vec Ah ls false]
def oT:Stop:=⟨Az,2,2,30,[20,21,22,23,24,25,26,27,28,29],[0,5,6,7]⟩
def zS:Stop:=⟨AF,0,3,30,[20,21,22,23,24,25,26,27,28,29],[0,1,5]⟩
def psK:FV:=[(DV,[]),(AF,[5])]
def psB (I:BN) (ns nk:Nat) (row:List (EK.C [.tok])) (krow:Cq) (LS LK:FZ) (ls:Aw) (s:Int) (o:Value):BT:=
 ⟨⟨AF,EZ [(0,At 20),(1,int s),(5,At 30)],BD AF,[.code (A9 Tryz.prog AF [1,1,0,0]),.code (A9 Tryz.prog AF [1,1,0,1]),.code (A9 Tryz.prog AF [1,1,1])],[],false,.normal,none⟩,[],(hp (I++vP ns nk row krow LS LK ls)).alloc (.cells [o] 0 false)⟩
def zw:Tr Value:=EZ [(5,At 32)]
def zK (I:BN) (ns nk:Nat) (row:List (EK.C [.tok])) (krow:Cq) (LS LK:FZ) (ls lo:Aw) (k m:Nat) (i:Int):BT:=
 ⟨⟨Az,EZ [(0,.func (.yield 31) ⟨[]⟩ ⟨[]⟩),(5,Ao 29 m),(6,int m),(7,int i)],BD Az,[.code (A9 Tryz.prog Az [1,0,0]),.inLoop (A9 Tryz.prog Az [1,0,0]),.inBlock 0],[],false,.normal,none⟩,
  [⟨DV,EZ [],BD DV,[Yn Tryz.prog (A9 Tryz.prog DV [1,0]) 10],[],false,.normal,none⟩,
   ⟨AF,zw,BD AF,[.inRangeFunc 31,.inBlock 0,.code (A9 Tryz.prog AF [1,1,1])],[⟨.collected 30,⟨[]⟩⟩],false,.normal,none⟩],
  ((((hp (I++vP ns nk row krow LS LK ls)).alloc (.deferred (some []))).alloc (.loop ⟨.ready,none,AF,zw,BD AF,#[14],A9 Tryz.prog AF [1,1,0,1,0,0],A9 Tryz.prog AF [1,1,0,1,0,1],30⟩)).alloc (.cells [Ao 33 k] 0 false)).alloc (.vec Ah lo false)⟩
def dr (ids:AW) (l:List (EK.C [.tok])):List (EK.C [.tok]):=List.map (Np (Fw 30 ids)) l
def fj (ids:AW) (l:Cq):Cq:=YJ (Fw 30 ids) l
def rl (S:Stop) (h1:BT->Bool) (m:Nat) (Q:Bm) (R:Bz) (c:BT):Prop:=pW uX (Ax cPs) [(25,Ao 29 m)] AF [20,21,22,23,24,25,26,27,28,29] S h1 S (fun _=>false) psK Q R (fun _=>False) 900 c
def zf (I:BN) (ns nk:Nat) (row:List (EK.C [.tok])) (krow:Cq) (LS LK:FZ) (ls:Aw) (s:Int):BT:=⟨(psB I ns nk row krow LS LK ls s (Ao 31 0)).fr,[],(psB I ns nk row krow LS LK ls s (Ao 31 0)).H.alloc (.vec Ah [] false)⟩
theorem yB (c:GP) (nx:Int) (d:Ab) (t:xB) (ns nk:Nat) (row:List (EK.C [.tok])) (krow:Cq) (LS LK:FZ) (ls:Aw) (s m:Nat) (Q:Bm) (R:Bz):rl zS (fun c=>Il AF 2 c) m Q R (st AF [At 20,int s] (hp (L4 c nx d t++vP ns nk row krow LS LK ls)))=(
 (R (psB (L4 c nx d t) ns nk (dr [30] row) (fj [30] krow) LS LK ls (s:Int) (Value.slice none 0 0)))):=by kernel_rfl
theorem zA (c:GP) (nx:Int) (d:Ab) (t:xB) (ns nk:Nat) (row:List (EK.C [.tok])) (krow:Cq) (LS LK:FZ) (ls:Aw) (s m:Nat) (Q:Bm) (R:Bz):rl oT (fun c=>oT.here c) m Q R (zf (L4 c nx d t) ns nk row krow LS LK ls s)=(
 let a:Value:= .func (Fn.yield 35) ⟨[]⟩ ⟨[]⟩;(0 < ns)/\(bif decide ((s:Int) < Int.ofNat ns)then(bif decide (0<=(s:Int))&&Nat.blt (s:Int).toNat ns then(bif Nat.blt (0+(s:Int).toNat) row.length then(IZ (SK.enc SK.tok (List.getD row (0+(s:Int).toNat) (EK.BL [SK.tok]))) (Prod.snd (25,Ao 29 m)))/\((a:Value)=a)/\(R (zK (L4 c nx d t) ns nk (dr [34,35,30,31] row) (fj [34,35,30,31] krow) LS LK ls ([]:Aw) 0 m 0))else False)else False)else(Q (Ao 31 0) [some (.cells [(int (GP.n c)),(int (GP.z c)),(int (GP.r c)),(int (GP.w c)),(int (GP.k c)),(int (GP.v c)),(int (GP.p c)),(At 21),(At 22),(At 23),(int nx)] 0 true),some (.abs (Ct.pack (Pk.dev d)) false),some (.abs (Ct.pack (Pk.tab t)) false),some (.cells [(At 24),(Ao 25 ns)] 0 false),some (.cells [(.bool true),(Ao 26 nk)] 0 false),some (.vec [SK.tok] row false),some (.vec EV krow false),some (.abs (Ct.mem Ah LS) false),some (.abs (Ct.mem Ah LK) false),some (.vec Ah ls false),some (.vec Ah [] false)]))):=by kernel_rfl
theorem u7 (c:GP) (nx:Int) (d:Ab) (t:xB) (ns nk:Nat) (row:List (EK.C [.tok])) (krow:Cq) (LS LK:FZ) (ls lo:Aw) (k m:Nat) (i:Int) (Q:Bm) (R:Bz):rl oT (fun c=>oT.here c) m Q R (zK (L4 c nx d t) ns nk row krow LS LK ls lo k m i)=(
 let q:AP:= .vec [SK.tok] row false;let o:AP:= .abs (Ct.mem Ah LK) false;let l:AP:= .abs (Ct.mem Ah LS) false;let j:AP:= .abs (Ct.pack (Pk.tab t)) false;let h:AP:= .abs (Ct.pack (Pk.dev d)) false;let g:AP:= .cells [(At 24),(Ao 25 ns)] 0 false;let f:AP:= .cells [(.bool true),(Ao 26 nk)] 0 false;let b:AP:= .cells [(int (GP.n c)),(int (GP.z c)),(int (GP.r c)),(int (GP.w c)),(int (GP.k c)),(int (GP.v c)),(int (GP.p c)),(At 21),(At 22),(At 23),(int nx)] 0 true;let a:=List.getD ls (0+i.toNat) (EK.BL Ah);let e:=List.take k (List.drop 0 lo)++[(a.1,a.2.1,a.2.2.1,a.2.2.2.1,a.2.2.2.2.1,a.2.2.2.2.2)];(bif decide (i < (m:Int))then(bif decide (0<=i)&&Nat.blt i.toNat m then(bif Nat.blt (0+i.toNat) ls.length then(bif true&&Nat.ble (0+k) lo.length&&BQ 56 (k+1)then(bif Int.ofNat (k+1)==1000 then(Q (Ao 37 (k+1)) [some b,some h,some j,some g,some f,some q,some (.vec EV krow false),some l,some o,some (.vec Ah ls false),some (.vec Ah e false)])else(R (zK (L4 c nx d t) ns nk (dr [30,31,32,37] row) (fj [30,31,32,37] krow) LS LK ls e (k+1) m (IntKind.wrap .i64 (i+1)))))else False)else False)else False)else(Q (Ao 33 k) [some b,some h,some j,some g,some f,some q,some (.vec EV krow false),some l,some o,some (.vec Ah ls false),some (.vec Ah lo false)]))):=by kernel_rfl
section
variable {c:GP} {nx:Int} {d:Ab} {t:xB} {ns nk:Nat} {row:List (EK.C [.tok])} {krow:Cq} {LS LK:FZ} {ls:Aw}
abbrev AAL:AW:=[20,21,22,23,24,25,26,27,28,29]
def nV (I:BN) (ns nk:Nat) (row:List (EK.C [.tok])) (krow:Cq) (LS LK:FZ) (ls:Aw) (v:Value) (H:AA):Prop:=v=Ao 33 ls.length/\(AAL++[33]).map H.get=((I++vP ns nk row krow LS LK ls)++[AP.vec Ah ls false]).map some
theorem Zz {S:Stop} {h1:BT->Bool} {m:Nat} {Q:Bm} {R:Bz} {Q':Ih} {c:BT} (hS:30<=S.N) (hQ:∀v H,Q v ((AAL++Au 4 v).map H.get)->Q' v H) (hR:∀c,R c->AX uX 30 AF Q' c) (h:rl S h1 m Q R c):AX uX 30 AF Q' c:=
 tQ zY.pf (M:=30) (by kernel_rfl) hS hS hQ hR (fun c h=>h.elim) 900 c h
structure vp (ns:Nat) (row:List (EK.C [.tok])) (krow:Cq) (ls:Aw) (s:Nat):Prop where
 tC:∀v∈row,eX 30 v
 qC:∀p∈krow,eX 30 p.2
 hs:s < ns
 Pr:ns=row.length
 Jl:row.getD s (EK.BL [.tok])=Ao 29 ls.length
 SP:ls.length<=900
 hm:ns < 80000
theorem sn {s:Nat} (h:vp ns row krow ls s):∀(n i:Nat),ls.length - i=n->i<=ls.length->AX uX 30 AF (nV (L4 c nx d t) ns nk row krow LS LK ls) (zK (L4 c nx d t) ns nk row krow LS LK ls (ls.take i) i ls.length i):=by
 have SP:=h.SP;intro n;induction n with
 | zero=>
  intro i hn hi;have e:i=ls.length:=by omega
  refine Zz (S:=oT) (h1:=fun c=>oT.here c) (m:=ls.length) (by decide) (Q:=fun v os=>v=Ao 33 i/\os=((L4 c nx d t++vP ns nk row krow LS LK ls)++[AP.vec Ah (ls.take i) false]).map some) (R:=fun _=>False) (fun v H hq=>?_) (fun c h=>h.elim) ?_
  ·obtain⟨hv,hos⟩:=hq;have e2:ls.take i=ls:=Nw (by omega);rw[e2]at hos;subst hv;exact⟨by rw[e],hos⟩
  ·rw[u7];exact AZ (MC (by omega)) ⟨rfl,rfl⟩
 | succ n ih=>
  intro i hn hi;have hlt:i < ls.length:=by omega
  refine Zz (S:=oT) (h1:=fun c=>oT.here c) (m:=ls.length) (by decide) (Q:=fun _ _=>False) (R:=fun x=>x=zK (L4 c nx d t) ns nk row krow LS LK ls (ls.take (i+1)) (i+1) ls.length ((i+1:Nat):Int)) (fun v H hq=>hq.elim) (fun c hc=>?_) ?_
  ·rw[hc];exact ih (i+1) (by omega) (by omega)
  ·rw[u7];(conv=>zeta)
   have hw:IntKind.wrap .i64 ((i:Int)+1)=((i+1:Nat):Int):=by rw[wrap64 (by omega) (by omega)];rfl
   rw[hw];have e1:dr [30,31,32,37] row=row:=I4 _ row h.tC;have e2:fj [30,31,32,37] krow=krow:=Mp _ krow h.qC;rw[e1,e2];simp only[MG,RP,bl];have hl:(ls.take i).length=i:=by rw[Rg];omega
   have e3:List.take i (ls.take i)=ls.take i:=Nw (by omega);have e4:ls.take (i+1)=ls.take i++[DI ls i]:=by
    rw[AA3 hlt]
    congr 2
    unfold DI;rw[Kd,Jj hlt];rfl
   have hb:(true&&Nat.ble i (ls.take i).length&&BQ 56 (i+1))=true:=by
    rw[hl,Ez (GO _),Lu (by omega)];rfl
   rw[e3,e4];exact AB (KE (by omega)) (AB (EI hlt) (AB (Gc hlt) (AB hb (AZ (oH.2 (by show ¬((i+1:Nat):Int)=1000;omega)) rfl))))
theorem yC {s:Nat} (h:vp ns row krow ls s):AX uX 30 AF (nV (L4 c nx d t) ns nk row krow LS LK ls) (st AF [At 20,int s] (hp (L4 c nx d t++vP ns nk row krow LS LK ls))):=by
 have hs:=h.hs;have hm:=h.hm;refine Zz (m:=0) (S:=zS) (h1:=fun c=>Il AF 2 c) (by decide) (Q:=fun _ _=>False) (R:=fun x=>x=psB (L4 c nx d t) ns nk row krow LS LK ls s (.slice none 0 0)) (fun v H hq=>hq.elim) (fun x hc=>?_) ?_
 ·rw[hc];have e1:dr [34,35,30,31] row=row:=I4 _ row h.tC;have e2:fj [34,35,30,31] krow=krow:=Mp _ krow h.qC;refine A5.Gh 30 5 Ah [] [] (e:=0) (ro:=false) (b':=30) (o:=0) (s:=none) (by kernel_rfl) (by kernel_rfl) (by kernel_rfl) (by kernel_rfl) (by decide) ?_;have hT:AX uX 30 AF (nV (L4 c nx d t) ns nk row krow LS LK ls) (zf (L4 c nx d t) ns nk row krow LS LK ls s):=by
   refine Zz (m:=ls.length) (S:=oT) (h1:=fun c=>oT.here c) (by decide) (Q:=fun _ _=>False) (R:=fun x=>x=zK (L4 c nx d t) ns nk row krow LS LK ls [] 0 ls.length ((0:Nat):Int)) (fun v H hq=>hq.elim) (fun x hc=>?_) ?_
   ·rw[hc];exact sn h _ 0 rfl (ay _)
   ·rw[zA];(conv=>zeta);rw[e1,e2]
    simp only[MG,RP];exact⟨by omega,AB (KE (by show(s:Int) < (ns:Int);omega)) (AB (EI hs) (AB (Gc (by rw[<-h.Pr];exact hs)) ⟨⟨h.Jl⟩,by first | rfl | trivial,rfl⟩))⟩
  refine cast ?_ hT;kernel_rfl
 ·rw[yB];have e1:dr [30] row=row:=I4 _ row h.tC;have e2:fj [30] krow=krow:=Mp _ krow h.qC;rw[e1,e2]
end
def wm (x:Cm):BN:=[.cells [At 24,Ao 25 x.AR.length] 0 false,.cells [.bool true,Ao 26 x.keys.length] 0 false,.vec [.tok] (GL 27 x.AR) false,.vec EV (Df 28 x.keys) false,.abs (.mem Ah (x.AR.map some)) false,.abs (.mem Ah (DY x.keys)) false]
theorem sH {I:BN} {c:GP} {nx:Int} {d:Ab} {t:xB} (hI:I=L4 c nx d t) (x:Cm) (objs:BN) (hr:Bx (.idx x) objs):objs.length=6/\FB (hp (I++[.abs (.pack (.idx x)) false])) 23 false objs (hp (I++wm x)) []:=by
 subst hI;cases hr with
 | idx=>
  refine⟨rfl,?_⟩;have e:D7 ((hp (L4 c nx d t++[.abs (.pack (.idx x)) false])).put 23 (.cells [At 24,Ao 25 x.AR.length] 0 false)) (wm x).tail=hp (L4 c nx d t++wm x):=by kernel_rfl
  rw[<-e];refine dP (H:=hp (L4 c nx d t++[AP.abs (.pack (.idx x)) false])) (b:=23) (ro:=false) (o:= .cells [.pointer (some ⟨1,0,none⟩),.slice (some ⟨2,0,some 0⟩) x.AR.length cU] 0 false) (o1:= .cells [At 24,Ao 25 x.AR.length] 0 false) (ps1:=(wm x).tail) (ps:=[.cells [.bool true,.slice (some ⟨3,0,some 0⟩) x.keys.length cU] 0 false,.vec [.tok] (GL 4 x.AR) false,.vec [.str,.tok] (Df 5 x.keys) false,.abs (.mem Ah (x.AR.map some)) false,.abs (.mem Ah (x.keys.map fun p=>some p.2)) false]) (show 23 < 24 by decide) (fun z hz=>?_) rfl rfl ?_
  ·have hz:24<=z:=hz;unfold hp;rw[Fc];show(if z < 20 then _ else _)=_;rw[JT (by omega),T6 (by show 4<=z - 20;omega)];rfl
  ·exact yZ rfl (OV (by rfl) _ _) (Nv (by rfl) _ _) rfl rfl
theorem dz {S:List (Aw)} {s n N a z:Nat} (ha:a < N) (hz:z < N):∀v∈(GL a S).set s (Ao z n),eX N v:=by
 intro v hv;rcases yk hv with h | h
 ·unfold GL at h;obtain⟨p,_,rfl⟩:=List.mem_map.1 h;exact⟨a,1,some p.2,_,_,rfl,ha⟩
 ·exact⟨z,0,some 0,n,_,h,hz⟩
theorem gm {K:List (As × Aw)} {N b:Nat} (hb:b < N):∀p∈Df b K,eX N p.2:=by
 intro p hp;unfold Df at hp;obtain⟨t,_,rfl⟩:=List.mem_map.1 hp;exact⟨b,1,some t.2,_,_,rfl,hb⟩
structure fp (x:Cm) (s:Nat):Prop where
 hs:s < x.AR.length
 hm:x.AR.length < 80000
 SP:(C7 x s).length<=900
theorem sX {base:Env} {W0 W:World} {μ:Ae} {I:BN} {c:GP} {nx:Int} {d:Ab} {t:xB} (hI:I=L4 c nx d t) {x:Cm} {s:Nat} (hs:s < x.AR.length) (h:AJ base W0 μ (hp (I++wm x)) W) (hd:∀z,23<=z/\z < 29->∃T,μ z=some T):
 ∃μ2,μ.le μ2/\AJ base W0 μ2 (hp (I++vP x.AR.length x.keys.length ((GL 27 x.AR).set s (Ao 29 (C7 x s).length)) (Df 28 x.keys) (Ip x.AR s) (DY x.keys) (C7 x s))) W/\∀z,23<=z/\z < 30->∃T,μ2 z=some T:=by
 subst hI;obtain⟨μ2,k1,k2,k3⟩:=kq h (r:=25) (a:=27) (Jc hs) (by kernel_rfl) (by kernel_rfl) (hd 27 (by decide));have hnx:(hp (L4 c nx d t++wm x)).next=29:=by kernel_rfl
 rw[hnx]at k2 k3;refine⟨μ2,k1,k2.congr (fun z=>?_) rfl,fun z hz=>?_⟩
 ·rw[AA.AU,Iz,hnx]
  by_cases e1:z=25
  ·subst e1;rw[MB rfl];kernel_rfl
  ·rw[JT e1]
   by_cases e2:z=29
   ·subst e2;rw[MB rfl];kernel_rfl
   ·rw[JT e2]
    by_cases e3:z=27
    ·subst e3;rw[MB rfl];kernel_rfl
    ·rw[JT e3];show(DH ⟨.leaf,20⟩ _).get z=(DH ⟨.leaf,20⟩ _).get z;rw[Fc,Fc]
     by_cases e4:z < 20
     ·simp only[MB e4]
     ·simp only[JT e4];obtain⟨j,rfl⟩:∃j,z=20+j:=⟨z - 20,by omega⟩
      rw[AAl]
      match j,e1,e2,e3 with
      | 0,_,_,_=>rfl
      | 1,_,_,_=>rfl
      | 2,_,_,_=>rfl
      | 3,_,_,_=>rfl
      | 4,_,_,_=>rfl
      | 5,e1,_,_=>exact absurd rfl e1
      | 6,_,_,_=>rfl
      | 7,_,_,e3=>exact absurd rfl e3
      | 8,_,_,_=>rfl
      | 9,_,e2,_=>exact absurd rfl e2
      | j+10,_,_,_=>rfl
 ·by_cases e:z=29
  ·subst e;exact k3
  ·obtain⟨T,hT⟩:=hd z (by omega);exact⟨T,k1 _ _ hT⟩
theorem yA {c:GP} {nx:Int} {d:Ab} {t:xB} {x:Cm} {s:Nat} (h:fp x s):Ak uX 29 (fun b=>23<=b/\b < 29) AF (fun v H=>v=Ao 33 (C7 x s).length/\[20,21,22,23,33].map H.get=(L4 c nx d t++[AP.abs (.pack (.idx x)) false,AP.vec Ah (C7 x s) false]).map some) (st AF [At 20,int s] (hp (L4 c nx d t++wm x))):=by
 have hs:=h.hs;have hrun:=yC (c:=c) (nx:=nx) (d:=d) (t:=t) (ns:=x.AR.length) (nk:=x.keys.length) (row:=(GL 27 x.AR).set s (Ao 29 (C7 x s).length)) (krow:=Df 28 x.keys) (LS:=Ip x.AR s) (LK:=DY x.keys) (ls:=C7 x s) (s:=s) ⟨dz (by decide) (by decide),gm (by decide),hs,by rw[SB,DS],Dp (by rw[DS];exact hs),h.SP,h.hm⟩;refine Ak.Ug (N2:=30) (D2:=fun b=>23<=b/\b < 30) (AX.iW hrun ?_) (fun base W0 μ W hD hH=>sX rfl hs hH fun z hz=>hD z hz) (BE (by kernel_rfl));intro v H base W0 W μ hQ hD hH;obtain⟨rfl,hos⟩:=hQ;unfold L4 vP at hos;simp only[Sm,o6,Nh,iy,sK,ic]at hos;obtain⟨g20,g21,g22,g23,g24,g25,g26,g27,g28,g29,g33⟩:=hos;have h33:=hH.lt g33;obtain⟨μ2,H2,r1,r2,r3,r4⟩:=ji hH (t:=23) (m:=24) (r:=25) (y:=26) (a:=27) (b:=28) (by decide) (fun z hz=>hD z (by simp at hz;omega)) (x:=x) (s:=s) (w1:=29) (l1:=C7 x s) hs g29 (hD 29 (by omega)) (by decide) g23 g24 g25 g26 g27 g28;refine⟨_,H2,⟨rfl,?_⟩,fun v' hv=>⟨μ2,r1,r2,hv.mono r1⟩⟩;have k:=fun z (h1:z∉[23,24,25,26,27,28]) (h2:z≠29) (h3:z < H.next)=>r4 z h1 h2 (by omega)
 simp only[Sm,o6];rw[k 20 (by decide) (by decide) (hH.lt g20),k 21 (by decide) (by decide) (hH.lt g21),k 22 (by decide) (by decide) (hH.lt g22),k 33 (by decide) (by decide) h33,r3,g20,g21,g22,g33,KU (Jc hs)];rfl
def psG (args:AL) (objs:BN):GT:=match args,objs with
 | [.pointer (some ⟨20,0,none⟩),.int .i64 s],[.cells [.int .i64 _,.int .i64 _,.int .i64 _,.int .i64 _,.int .i64 _,.int .i64 _,.int .i64 _,.pointer (some ⟨21,0,none⟩),.pointer (some ⟨22,0,none⟩),.pointer (some ⟨23,0,none⟩),.int .i64 _] 0 _,.abs (.pack (.dev d)) _,.abs (.pack (.tab t)) _,.abs (.pack (.idx x)) _]=>
  .ask (s=(s.toNat:Int)/\fp x s.toNat) (.ret ⟨Ao 24 (C7 x s.toNat).length,[(none:Option AP),some (.abs (.pack (.dev d)) false),some (.abs (.pack (.tab t)) false),some (.abs (.pack (.idx x)) false)],[.vec Ah (C7 x s.toNat) false]⟩)
 | _,_=> .fail
abbrev zJ:List Bool:=[false,true,true,true]
theorem xN:CY Tryz.prog AI AF (Ai AI 20 zJ psG):=by
 refine BF zY.all (by kernel_rfl) (n:=BD AF) (by kernel_rfl) (by kernel_rfl) fun argsc objs y hx hro=>?_
 unfold psG at hx;split at hx
 ·rename_i s a0 a1 a2 a3 a4 a5 a6 nx ro0 d ro1 t ro2 x ro3;have hr1:ro1=false:=hro 1 _ rfl rfl;have hr2:ro2=false:=hro 2 _ rfl rfl;have hr3:ro3=false:=hro 3 _ rfl rfl;subst hr1 hr2 hr3;simp only[GT.run]at hx;split at hx
  ·rename_i h;cases hx
   obtain⟨hs,hok⟩:=h;refine⟨BE (by kernel_rfl),?_⟩;have hI:L4 ⟨a0,a1,a2,a3,a4,a5,a6⟩ nx d t=L4 ⟨a0,a1,a2,a3,a4,a5,a6⟩ nx d t:=rfl;generalize hc:(⟨a0,a1,a2,a3,a4,a5,a6⟩:GP)=c at hI;show Ak uX 24 (fun b=>20<=b/\b < 24) AF _ (st AF [At 20,int s] (hp (L4 ⟨a0,a1,a2,a3,a4,a5,a6⟩ nx d t++[.abs (.pack (.idx x)) false])));rw[hc];refine Ak.tk (N2:=29) (b:=23) (s:= .idx x) (ro:=false) ⟨by omega,by omega⟩ (by kernel_rfl) fun objs2 hr2=>?_
   obtain⟨hl,hO⟩:=sH hI x objs2 hr2;refine⟨_,hO,BE (by kernel_rfl),?_⟩;have h:=yA (c:=c) (nx:=nx) (d:=d) (t:=t) hok;rw[<-hs]at h;refine Ak.sub (Ak.mono h ?_) fun b hb=>?_
   ·rintro v H ⟨rfl,hos⟩;unfold L4 at hos;simp only[Sm,o6,Nh,iy,sK,ic]at hos;obtain⟨g20,g21,g22,g23,g33⟩:=hos;refine⟨[33],by decide,fun b hb=>(by rw[Q4]at hb;rw[hb];show 24<=33;decide),rfl,rfl,fun j b o hj ho=>?_,fun j o hj hm ho=>?_⟩
    ·match j,hj,ho with
     | 0,hj,ho=>cases hj;cases ho;exact⟨_,rfl,g33⟩
     | j+1,hj,_=>cases hj
    ·match j,hm,ho with
     | 0,hm,_=>cases hm
     | 1,_,ho=>cases ho;exact⟨_,rfl,g21⟩
     | 2,_,ho=>cases ho;exact⟨_,rfl,g22⟩
     | 3,_,ho=>cases ho;exact⟨_,rfl,g23⟩
     | j+4,hm,_=>cases hm
   ·rw[hl];refine⟨b - 23,by omega,?_⟩;show b=if b - 23=0 then 23 else 24+(b - 23 - 1)
    split<;>omega
  ·cases hx
 ·cases hx
def cPc:List GA:=[GQ AF zJ psG,GQ FI [] ftG,ON By (int 0) Pv,
 (CI,Ai AI 20 [true] (CX 20 (TB Cn fun _=>false)),Cs AI 20 [true] (CX 20 iT)),GQ D3 [true] (CX 20 Yr)]
theorem zx:Ci cPc:= .cons xN <| .cons tD <| .OG Sl (M0 _ _) <| .OG RE dU <| .cons eL .nil
abbrev XPc:Ctx:=Bp Tryz.prog AI (Cv cPc)
def Ux (a b:Int):Int:=if b > a then b else a
def pcS:Stop:=⟨AG,0,3,24,[20,21,22,23],[0,1,5,12,13,14]⟩
def zF (c:GP) (nx:Int) (d:Ab) (t:xB) (x:Cm) (s:Int) (ls:Aw) (m:Nat) (cn la i:Int):BT:=
 ⟨⟨AG,EZ [(0,At 20),(1,int s),(5,At 24),(12,Ao 25 m),(13,int m),(14,int i)],BD AG,[.code (A9 Tryz.prog AG [1,1,0,1,0,0]),.inLoop (A9 Tryz.prog AG [1,1,0,1,0,0]),.inBlock 0,.code (A9 Tryz.prog AG [1,1,1])],[],false,.normal,none⟩,[],
  hp (L4 c nx d t++[AP.abs (.pack (.idx x)) false,.cells [int cn,int la] 0 false,.vec Ah ls false])⟩
def pb (Q:Bm) (R:Bz) (c:BT):Prop:=Iy XPc (Ax cPc) [] AG [20,21,22,23] pcS [] Q R 900 c
theorem xO (c:GP) (nx:Int) (d:Ab) (t:xB) (x:Cm) (s:Int) (Q:Bm) (R:Bz):pb Q R (st AG [At 20,int s] (hp (L4 c nx d t++[AP.abs (.pack (.idx x)) false])))=(
 (s=(s.toNat:Int)/\fp x s.toNat)/\(R (zF c nx d t x s (C7 x s.toNat) (C7 x s.toNat).length 0 0 0))):=by kernel_rfl
theorem uk (c:GP) (nx:Int) (d:Ab) (t:xB) (x:Cm) (s:Int) (ls:Aw) (m:Nat) (cn la i:Int) (Q:Bm) (R:Bz):pb Q R (zF c nx d t x s ls m cn la i)=(
 let e:=int (List.getD ls (0+i.toNat) (EK.BL Ah)).1;let b:=Ux la (DI ls (0+i.toNat)).1;let a:=DX d s (List.take 16 (vQ cn la));(bif decide (i < (m:Int))then(bif decide (0<=i)&&Nat.blt i.toNat m then(bif Nat.blt (0+i.toNat) ls.length then(((int b):Value)=(int b))/\((e:Value)=e)/\(((At 26):Value)=(At 26))/\(R (zF c nx d t x s ls m (IntKind.wrap .i64 (cn+1)) b (IntKind.wrap .i64 (i+1))))else False)else False)else(nj cn la)/\(16<=(vQ cn la).length)/\(((int a.1):Value)=(int 0))/\(((De a.2 s).1)=(0))/\(qj t s)/\(Q (.bool true) [some (.cells [(int (GP.n c)),(int (GP.z c)),(int (GP.r c)),(int (GP.w c)),(int (GP.k c)),(int (GP.v c)),(int (GP.p c)),(At 21),(At 22),(At 23),(int nx)] 0 true),some (.abs (Ct.pack (PL.nx { v:=int 0,nx:=Pk.dev (De a.2 s).2,news:=[] })) false),some (.abs (Ct.pack (PL.nx { v:=int 0,nx:=Pk.tab (A6 t s 2),news:=[] })) false),some (.abs (Ct.pack (Pk.idx x)) false)]))):=by kernel_rfl
def O9 (ls:Aw):Int:=ls.foldl (fun a e=>Ux a e.1) 0
def wC (ls:Aw):Ad:=vQ (ls.length:Nat) (O9 ls)
def uN (d:Ab) (s:Int) (ls:Aw):Ab:=(De (DX d s (wC ls)).2 s).2
structure sa (d:Ab) (t:xB) (s:Int) (ls:Aw):Prop where
 ft:nj (ls.length:Nat) (O9 ls)
 ap:(DX d s (wC ls)).1=0
 sy:(De (DX d s (wC ls)).2 s).1=0
 sl:qj t s
 ln:ls.length<=900
section
variable {c:GP} {nx:Int} {d:Ab} {t:xB} {x:Cm} {s:Int} {ls:Aw}
def pcJ (c:GP) (nx:Int) (d:Ab) (t:xB) (x:Cm):LR:=[some (zC c nx true),some (.abs (.pack (.dev d)) false),some (.abs (.pack (.tab t)) false),some (.abs (.pack (.idx x)) false)]
theorem jh {Q:Bm} {R:Bz} {Q':Ih} {y:BT} (hQ:∀v H,Q v (([20,21,22,23]++Au 4 v).map H.get)->Q' v H) (hR:∀y,R y->AX XPc 24 AG Q' y) (h:pb Q R y):AX XPc 24 AG Q' y:=
 by unfold pb at h;exact Bq zx.pf [] [20,21,22,23] pcS [] (by kernel_rfl) (show 24<=24 from GO _) Q R hQ hR h
theorem mT {i:Nat} (hi:i < ls.length):O9 (ls.take (i+1))=Ux (O9 (ls.take i)) (DI ls i).1:=by
 have e4:ls.take (i+1)=ls.take i++[DI ls i]:=by
  rw[AA3 hi]
  congr 2
  unfold DI;rw[Kd,Jj hi];rfl
 unfold O9;rw[e4,List.foldl_append];rfl
theorem qH (h:sa d t s ls):∀(n i:Nat),ls.length - i=n->i<=ls.length->AX XPc 24 AG (fun v H=>v= .bool true/\[20,21,22,23].map H.get=pcJ c nx (uN d s ls) (A6 t s 2) x) (zF c nx d t x s ls ls.length (i:Nat) (O9 (ls.take i)) (i:Nat)):=by
 have hln:=h.ln;intro n;induction n with
 | zero=>
  intro i hn hi;have e:i=ls.length:=by omega
  subst e;refine jh (Q:=fun v os=>v= .bool true/\os=pcJ c nx (uN d s ls) (A6 t s 2) x) (R:=fun _=>False) (fun v H hq=>?_) (fun c h=>h.elim) ?_
  ·obtain⟨rfl,hos⟩:=hq;exact⟨rfl,hos⟩
  ·rw[uk];(conv=>zeta);rw[Nw (GO _)]
   have e16:List.take 16 (vQ (ls.length:Nat) (O9 ls))=wC ls:=Nw (by rw[Te];exact GO _);rw[e16];exact AZ (MC (by omega)) ⟨h.ft,by rw[Te];exact GO _,congrArg int h.ap,h.sy,h.sl,rfl,rfl⟩
 | succ n ih=>
  intro i hn hi;have hlt:i < ls.length:=by omega
  refine jh (Q:=fun _ _=>False) (R:=fun y=>y=zF c nx d t x s ls ls.length ((i+1:Nat):Int) (O9 (ls.take (i+1))) ((i+1:Nat):Int)) (fun v H h=>h.elim) (fun y hy=>?_) ?_
  ·rw[hy];exact ih (i+1) (by omega) (by omega)
  ·rw[uk];(conv=>zeta);rw[mT hlt]
   have hw:IntKind.wrap .i64 ((i:Int)+1)=((i+1:Nat):Int):=by rw[wrap64 (by omega) (by omega)];rfl
   rw[hw];simp only[MG,RP];exact AB (KE (by omega)) (AB (EI hlt) (AB (Gc hlt) ⟨trivial,trivial,trivial,by first | rfl | trivial⟩))
end
def pcG (args:AL) (objs:BN):GT:=match args,objs with
 | [.pointer (some ⟨20,0,none⟩),.int .i64 s],[.cells [.int .i64 _,.int .i64 _,.int .i64 _,.int .i64 _,.int .i64 _,.int .i64 _,.int .i64 _,.pointer (some ⟨21,0,none⟩),.pointer (some ⟨22,0,none⟩),.pointer (some ⟨23,0,none⟩),.int .i64 _] 0 _,.abs (.pack (.dev d)) _,.abs (.pack (.tab t)) _,.abs (.pack (.idx x)) _]=>
  .ask ((s=(s.toNat:Int)/\fp x s.toNat)/\sa d t s (C7 x s.toNat)) (.ret ⟨.bool true,[(none:Option AP),some (.abs (.pack (.dev (uN d s (C7 x s.toNat)))) false),some (.abs (.pack (.tab (A6 t s 2))) false),some (.abs (.pack (.idx x)) false)],[]⟩)
 | _,_=> .fail
theorem vz:CY Tryz.prog AI AG (Ai AI 20 zJ pcG):=by
 refine BF zx.all (by kernel_rfl) (n:=BD AG) (by kernel_rfl) (by kernel_rfl) fun argsc objs y hx hro=>?_
 unfold pcG at hx;split at hx
 ·rename_i s a0 a1 a2 a3 a4 a5 a6 nx ro0 d ro1 t ro2 x ro3;have hr1:ro1=false:=hro 1 _ rfl rfl;have hr2:ro2=false:=hro 2 _ rfl rfl;have hr3:ro3=false:=hro 3 _ rfl rfl;subst hr1 hr2 hr3;simp only[GT.run]at hx;split at hx
  ·rename_i h;cases hx
   obtain⟨hs,hok⟩:=h;refine⟨BE (by kernel_rfl),?_⟩;refine Ak.mono (AX.Fh (Q:=fun v H=>v= .bool true/\[20,21,22,23].map H.get=pcJ ⟨a0,a1,a2,a3,a4,a5,a6⟩ nx (uN d s (C7 x s.toNat)) (A6 t s 2) x) ?_) ?_
   ·refine jh (Q:=fun _ _=>False) (R:=fun y=>y=zF ⟨a0,a1,a2,a3,a4,a5,a6⟩ nx d t x s (C7 x s.toNat) (C7 x s.toNat).length ((0:Nat):Int) (O9 ((C7 x s.toNat).take 0)) ((0:Nat):Int)) (fun v H h=>h.elim) (fun y hy=>?_) (y:=st AG [At 20,int s] (hp (L4 ⟨a0,a1,a2,a3,a4,a5,a6⟩ nx d t++[AP.abs (.pack (.idx x)) false]))) ?_
    ·rw[hy];exact qH hok _ 0 rfl (ay _)
    ·rw[xO];exact⟨hs,rfl⟩
   ·rintro v H ⟨rfl,hos⟩;unfold pcJ at hos;simp only[Sm,o6,Nh,iy]at hos;obtain⟨g20,g21,g22,g23⟩:=hos;refine⟨[],dG,fun b hb=>(by cases hb),rfl,rfl,fun j b o hj=>(by cases hj),fun j o hj hm ho=>?_⟩
    match j,hm,ho with
    | 0,hm,_=>cases hm
    | 1,_,ho=>cases ho;exact⟨_,rfl,g21⟩
    | 2,_,ho=>cases ho;exact⟨_,rfl,g22⟩
    | 3,_,ho=>cases ho;exact⟨_,rfl,g23⟩
    | j+4,hm,_=>cases hm
  ·cases hx
 ·cases hx
def cPd:List GA:=[GQ Dm [true] (CX 20 PJ),GQ AG zJ pcG,GQ Aq [] mrG,
 (CS,Ai AI 20 [] VV,Cs AI 20 [] jo),(Gp,Ai AI 20 [true] (CX 20 lJ),Cs AI 20 [true] (CX 20 mJ)),
 GQ F5 [true] (CX 20 Xn),GQ Dj [true] (CX 20 Xu),
 (DQ,Ai AI 20 [true] (CX 20 (HK fun m=>m.b.length)),Cs AI 20 [true] (CX 20 oa)),(Cy,Ai AI 20 [] TX,Cs AI 20 [] jR),
 ON By (int 0) Pv,(AE,Ai AI 20 [true] s7,Cs AI 20 [true] (CX 20 uG))]
theorem zp:Ci cPd:= .cons NJ <| .cons vz <| .cons xS <| .OG fe dV <| .OG Xj gw <| .cons gH <| .cons eB <| .OG Sz Ws <| .OG Ve cj <| .OG Sl (M0 _ _) <| .OG og jC .nil
abbrev XPd:Ctx:=Bp Tryz.prog AI (Cv cPd)
def psJ (c:GP) (nx:Int) (d:Ab) (t:xB) (x:Cm):BN:=[zC c nx false,.abs (.pack (.dev d)) false,.abs (.pack (.tab t)) false,.abs (.pack (.idx x)) false]
def mvA (a b c:Int):Value:= .agg ⟨[.int .u8 a,.int .u8 b,.int .u8 c]⟩
theorem ze (c:GP) (nx:Int) (d:Ab) (t:xB) (x:Cm) (e f g:Int) (Q:Bm):CU XPd (Ax cPd) [] Ay [20,21,22,23] 24 Q 900 (st Ay [At 20,mvA e f g] (hp (psJ c nx d t x)))=(
 let Y:=JB t 0<=GP.r c;let X:=Va e f g (GP.v c);let W:=((Bo t 1).toNat:Int);let U:=C7 x (Bo t 1).toNat;let P:=A8 d (LW t).1;let O:=A8 d (Bo t 1);let N:=A6 t (Bo t 1) 2;let L:AP:= .abs (Ct.pack (Pk.dev d)) false;let J:=Ab.down d=false/\Ba (Ab.BB d) (Bo t 1)=false;let I:=int (GP.r c);let H:AP:= .abs (Ct.pack (PL.nx { v:=int (JB t 0),nx:=Pk.tab t,news:=[] })) false;let E:AP:= .abs (Ct.pack (PL.nx { v:=DE (Gw d (Bo t 1)) 0,nx:=Pk.dev d,news:=[] })) false;let D:Value:= .pointer (some ⟨20,2,none⟩);let B:=(Bo t 1=W/\fp x (Bo t 1).toNat)/\sa d t (Bo t 1) U;let A:=((At 20):Value)=(At 20);let u:AP:= .abs (Ct.pack (PL.nx { v:=DE (LW t).1 (LW t).2,nx:=Pk.tab (Mh t),news:=[] })) false;let o:AP:= .abs (Ct.pack (Pk.idx x)) false;let m:=((iJ e):Int);let l:AP:= .cells [(int (GP.n c)),(int (GP.z c)),I,(int (GP.w c)),(int (GP.k c)),(int (GP.v c)),(int (GP.p c)),(At 21),(At 22),(At 23),(int (IntKind.wrap .i64 (nx+1)))] 0 false;let j:=V1 e f g (GP.v c);let V:=E3 (m) nx (F0 f) j;let S:=Bu (F0 f) j;let C:=Bu (F0 f) j<=V.length;let y:=(Bool.rec false (J6 j 512==0) ((m==1||m==2&&Jf j)&& !decide (nx < 1)&& !decide (nx > 1099511627776)&&I1 (F0 f)==0))=(true);let s:=(S:Int);let i:=uN d (Bo t 1) U;let K:AP:= .abs (Ct.pack (Pk.dev i)) false;let h:=LW N;let T:=A8 i h.1;let q:AP:= .abs (Ct.pack (PL.nx { v:=DE h.1 h.2,nx:=Pk.tab (Mh N),news:=[] })) false;let b:AP:= .cells [(int (GP.n c)),(int (GP.z c)),I,(int (GP.w c)),(int (GP.k c)),(int (GP.v c)),(int (GP.p c)),(At 21),(At 22),(At 23),(int nx)] 0 false;let a:=List.take S V;let M:=DX i h.1 a;let G:=DX d (LW t).1 a;let F:=DX d (Bo t 1) a;(bif IT t 1 then(bif Int.tmod e 8==6 then B/\(Q (.bool true) [some b,some K,some (.abs (Ct.pack (Pk.tab N)) false),some o])else X/\y/\J/\(bif decide (Int.ofNat S<=IntKind.wrap .i64 (Gw d (Bo t 1) - 16))then J/\((Bool.rec false (!decide (A8 d (Bo t 1) > 8192)) (DR (m) nx (F0 f) j&& !decide (Bo t 1 < 0)&& !decide (Bo t 1≥32)&& !decide (A8 d (Bo t 1) < 0)))=(true))/\C/\(((int F.1):Value)=(int 0))/\((Bo t 1=W/\Lr x nx (F0 f) (m==2) (Bo t 1).toNat O s)/\El x nx (F0 f) (m==2) (Bo t 1).toNat O s=0)/\(Q (.bool true) [some l,some (.abs (Ct.pack (PL.nx { v:=int 0,nx:=PL.nx { v:=int F.1,nx:=Pk.dev F.2,news:=[] },news:=PL.news { v:=int F.1,nx:=Pk.dev F.2,news:=[] } })) false),some (.abs (Ct.pack (PL.nx { v:=Value.tuple { toList:=[int (Bo t 1),Value.bool true] },nx:=Pk.tab t,news:=[] })) false),some (.abs (Ct.pack (PL.nx { v:=int 0,nx:=Pk.idx (JO x nx (F0 f) (m==2) (Bo t 1).toNat O s),news:=[] })) false)])else((I:Value)=I)/\((D:Value)=D)/\A/\A/\A/\(bif decide Y then((I:Value)=I)/\((D:Value)=D)/\A/\A/\A/\(bif decide Y then(Q (.bool true) [some b,some E,some H,some o])else(Q (.bool false) [some b,some E,some H,some o]))else B/\(bif h.2 != 0 then(bif h.2==11 then(Q (.bool true) [some b,some K,some q,some o])else(Q (.bool false) [some b,some K,some q,some o]))else(Ab.down i=false/\Ba (Ab.BB i) h.1=false)/\((Bool.rec false (!decide (A8 i h.1 > 8192)) (DR (m) nx (F0 f) j&& !decide (h.1 < 0)&& !decide (h.1≥32)&& !decide (A8 i h.1 < 0)))=(true))/\C/\(((int M.1):Value)=(int 0))/\((h.1=(h.1.toNat:Int)/\Lr x nx (F0 f) (m==2) h.1.toNat T s)/\El x nx (F0 f) (m==2) h.1.toNat T s=0)/\(Q (.bool true) [some l,some (.abs (Ct.pack (PL.nx { v:=int 0,nx:=PL.nx { v:=int M.1,nx:=Pk.dev M.2,news:=[] },news:=PL.news { v:=int M.1,nx:=Pk.dev M.2,news:=[] } })) false),some q,some (.abs (Ct.pack (PL.nx { v:=int 0,nx:=Pk.idx (JO x nx (F0 f) (m==2) h.1.toNat T s),news:=[] })) false)])))))else(bif Int.tmod e 8==6 then(Q (.bool true) [some b,some L,some (.abs (Ct.pack (PL.nx { v:=Value.tuple { toList:=[int 0,Value.bool false] },nx:=Pk.tab t,news:=[] })) false),some o])else X/\y/\(bif (LW t).2 != 0 then(bif (LW t).2==11 then(Q (.bool true) [some b,some L,some u,some o])else(Q (.bool false) [some b,some L,some u,some o]))else(Ab.down d=false/\Ba (Ab.BB d) (LW t).1=false)/\((Bool.rec false (!decide (A8 d (LW t).1 > 8192)) (DR (m) nx (F0 f) j&& !decide ((LW t).1 < 0)&& !decide ((LW t).1≥32)&& !decide (A8 d (LW t).1 < 0)))=(true))/\C/\(((int G.1):Value)=(int 0))/\(((LW t).1=((LW t).1.toNat:Int)/\Lr x nx (F0 f) (m==2) (LW t).1.toNat P s)/\El x nx (F0 f) (m==2) (LW t).1.toNat P s=0)/\(Q (.bool true) [some l,some (.abs (Ct.pack (PL.nx { v:=int 0,nx:=PL.nx { v:=int G.1,nx:=Pk.dev G.2,news:=[] },news:=PL.news { v:=int G.1,nx:=Pk.dev G.2,news:=[] } })) false),some u,some (.abs (Ct.pack (PL.nx { v:=int 0,nx:=Pk.idx (JO x nx (F0 f) (m==2) (LW t).1.toNat P s),news:=[] })) false)]))))):=by kernel_rfl
structure IQ where
 d:Ab
 t:xB
 x:Cm
 nx:Int
structure zX (p:IQ) (k:Int) (ky vl:As) (s:Int):Prop where
 dn:p.d.down=false/\Ba p.d.BB s=false
 rc:L6 k p.nx ky vl s (A8 p.d s)=true
 ap:(DX p.d s (E3 k p.nx ky vl)).1=0
 ad:(s=(s.toNat:Int)/\Lr p.x p.nx ky (k==2) s.toNat (A8 p.d s) (Bu ky vl:Nat))/\El p.x p.nx ky (k==2) s.toNat (A8 p.d s) (Bu ky vl:Nat)=0
def puN (p:IQ) (k:Int) (ky vl:As) (s:Int):IQ:=⟨(DX p.d s (E3 k p.nx ky vl)).2,p.t,JO p.x p.nx ky (k==2) s.toNat (A8 p.d s) (Bu ky vl:Nat),IntKind.wrap .i64 (p.nx+1)⟩
def eK (p:IQ):IQ:=⟨uN p.d (Bo p.t 1) (C7 p.x (Bo p.t 1).toNat),A6 p.t (Bo p.t 1) 2,p.x,p.nx⟩
structure yG (p:IQ):Prop where
 n:Bo p.t 1=((Bo p.t 1).toNat:Int)
 ps:fp p.x (Bo p.t 1).toNat
 cl:sa p.d p.t (Bo p.t 1) (C7 p.x (Bo p.t 1).toNat)
def Ob (p:IQ):IQ:=⟨p.d,Mh p.t,p.x,p.nx⟩
def eA (d:Ab) (s:Int) (n:Nat):Bool:=decide ((n:Int)<=IntKind.wrap .i64 (Gw d s - 16))
section
variable (c:GP) (p:IQ) (e f g:Int)
def TW:Nat:=Bu (F0 f) (V1 e f g c.v)
def iR (q:IQ) (s:Int):IQ:=puN q (iJ e:Nat) (F0 f) (V1 e f g c.v) s
def xk (q:IQ) (s:Int):Prop:=zX q (iJ e:Nat) (F0 f) (V1 e f g c.v) s
def QI (q:IQ):IQ:=bif (LW q.t).2 != 0 then Ob q else iR c e f g (Ob q) (LW q.t).1
def y6 (q:IQ):Prop:=((LW q.t).2=0/\xk c e f g (Ob q) (LW q.t).1)∨(LW q.t).2=11
def qR:IQ:=
 bif IT p.t 1 then bif Int.tmod e 8==6 then eK p else bif eA p.d (Bo p.t 1) (TW c e f g)then iR c e f g p (Bo p.t 1)else bif decide (JB p.t 0<=c.r)then p else QI c e f g (eK p)
 else bif Int.tmod e 8==6 then p else QI c e f g p
structure yK:Prop where
 mv:Va e f g c.v
 ok:DR (iJ e:Nat) p.nx (F0 f) (V1 e f g c.v)=true
def Xk:Prop:=
 bif IT p.t 1 then bif Int.tmod e 8==6 then yG p else yK c p e f g/\(p.d.down=false/\Ba p.d.BB (Bo p.t 1)=false)/\bif eA p.d (Bo p.t 1) (TW c e f g)then xk c e f g p (Bo p.t 1)else bif decide (JB p.t 0<=c.r)then True else yG p/\y6 c e f g (eK p)
 else bif Int.tmod e 8==6 then True else yK c p e f g/\y6 c e f g p
end
theorem fI (k q:Int) (a b:As):List.take (Bu a b) (E3 k q a b)=E3 k q a b:=Nw (by rw[E9];exact GO _)
def pdJ (c:GP) (p:IQ):LR:=[some (zC c p.nx false),some (.abs (.pack (.dev p.d)) false),some (.abs (.pack (.tab p.t)) false),some (.abs (.pack (.idx p.x)) false)]
theorem NW {a b:Bool} (h:(a&&b)=true):(Bool.rec (motive:=fun _=>Bool) false b a)=true:=by cases a<;>exact h
theorem wO {c:GP} {p:IQ} {e f g:Int} (h:Xk c p e f g):CU XPd (Ax cPd) [] Ay [20,21,22,23] 24 (fun v os=>v= .bool true/\os=pdJ c (qR c p e f g)) 900 (st Ay [At 20,mvA e f g] (hp (psJ c p.nx p.d p.t p.x))):=by
 obtain⟨d,t,x,nx⟩:=p;rw[ze];(conv=>zeta)
 unfold Xk at h;unfold qR;simp only[fI];have hl:Bu (F0 f) (V1 e f g c.v)<=(E3 (iJ e:Nat) nx (F0 f) (V1 e f g c.v)).length:=by rw[E9];exact GO _
 cases h1:IT t 1
 ·simp only[h1,EB]at h ⊢;cases h2:Int.tmod e 8==6
  ·simp only[h2,EB]at h ⊢;obtain⟨⟨hm,hr⟩,ht⟩:=h;refine⟨hm,NW hr,?_⟩;unfold QI;rcases ht with⟨t0,hp1,hp2,hp3,hp4⟩ | t1
   ·have t0:(LW t).2=0:=t0;simp only[t0];exact⟨hp1,NW hp2,hl,congrArg int hp3,hp4,by first | rfl | trivial,by first | rfl | trivial⟩
   ·have t1:(LW t).2=11:=t1;simp only[t1];exact⟨by first | rfl | trivial,by first | rfl | trivial⟩
  ·simp only[h2,C8]at h ⊢;exact⟨by first | rfl | trivial,by first | rfl | trivial⟩
 ·simp only[h1,C8]at h ⊢;cases h2:Int.tmod e 8==6
  ·simp only[h2,EB]at h ⊢;obtain⟨⟨hm,hr⟩,hd,h⟩:=h;refine⟨hm,NW hr,hd,?_⟩;show bif eA d (Bo t 1) (TW c e f g)then _ else _
   cases h3:eA d (Bo t 1) (TW c e f g)
   ·simp only[h3,EB]at h ⊢;refine⟨by first | rfl | trivial,by first | rfl | trivial,by first | rfl | trivial,by first | rfl | trivial,by first | rfl | trivial,?_⟩;cases h4:decide (JB t 0<=c.r)
    ·simp only[h4,EB]at h ⊢;obtain⟨⟨a1,a2,a3⟩,ht⟩:=h;refine⟨⟨⟨a1,a2⟩,a3⟩,?_⟩;unfold QI;rcases ht with⟨t0,hp1,hp2,hp3,hp4⟩ | t1
     ·have t0':(LW (eK ⟨d,t,x,nx⟩).t).2=0:=t0;have t0:(LW (A6 t (Bo t 1) 2)).2=0:=t0;simp only[t0,t0'];exact⟨hp1,NW hp2,hl,congrArg int hp3,hp4,by first | rfl | trivial,by first | rfl | trivial⟩
     ·have t1':(LW (eK ⟨d,t,x,nx⟩).t).2=11:=t1;have t1:(LW (A6 t (Bo t 1) 2)).2=11:=t1;simp only[t1,t1'];exact⟨by first | rfl | trivial,by first | rfl | trivial⟩
    ·repeat' first | exact rfl | trivial | refine⟨rfl,?_⟩ | refine⟨trivial,?_⟩
   ·simp only[h3,C8]at h ⊢;obtain⟨hp1,hp2,hp3,hp4⟩:=h;exact⟨hp1,NW hp2,hl,congrArg int hp3,hp4,by first | rfl | trivial,by first | rfl | trivial⟩
  ·simp only[h2,C8]at h ⊢;obtain⟨a1,a2,a3⟩:=h;exact⟨⟨⟨a1,a2⟩,a3⟩,by first | rfl | trivial,by first | rfl | trivial⟩
abbrev ptA:List Bool:=[true,true,true,true]
def pdG (args:AL) (objs:BN):GT:=match args,objs with
 | [.pointer (some ⟨20,0,none⟩),.agg ⟨[.int .u8 e,.int .u8 f,.int .u8 g]⟩],[.cells [.int .i64 a0,.int .i64 a1,.int .i64 a2,.int .i64 a3,.int .i64 a4,.int .i64 a5,.int .i64 a6,.pointer (some ⟨21,0,none⟩),.pointer (some ⟨22,0,none⟩),.pointer (some ⟨23,0,none⟩),.int .i64 nx] 0 _,.abs (.pack (.dev d)) _,.abs (.pack (.tab t)) _,.abs (.pack (.idx x)) _]=>
  .ask (Xk ⟨a0,a1,a2,a3,a4,a5,a6⟩ ⟨d,t,x,nx⟩ e f g) (.ret ⟨.bool true,pdJ ⟨a0,a1,a2,a3,a4,a5,a6⟩ (qR ⟨a0,a1,a2,a3,a4,a5,a6⟩ ⟨d,t,x,nx⟩ e f g),[]⟩)
 | _,_=> .fail
theorem xr:CY Tryz.prog AI Ay (Ai AI 20 ptA pdG):=by
 refine BF zp.all (by kernel_rfl) (n:=BD Ay) (by kernel_rfl) (by kernel_rfl) fun argsc objs y hx hro=>?_
 unfold pdG at hx;split at hx
 ·rename_i e f g a0 a1 a2 a3 a4 a5 a6 nx ro0 d ro1 t ro2 x ro3;have hr0:ro0=false:=hro 0 _ rfl rfl;have hr1:ro1=false:=hro 1 _ rfl rfl;have hr2:ro2=false:=hro 2 _ rfl rfl;have hr3:ro3=false:=hro 3 _ rfl rfl;subst hr0 hr1 hr2 hr3;simp only[GT.run]at hx;split at hx
  ·rename_i h;cases hx
   refine⟨BE (by kernel_rfl),?_⟩;refine Ak.mono (AX.Fh (BK zp.pf (by kernel_rfl) (wO h))) ?_;rintro v H ⟨rfl,hos⟩
   change [20,21,22,23].map H.get=_ at hos
   generalize qR ⟨a0,a1,a2,a3,a4,a5,a6⟩ ⟨d,t,x,nx⟩ e f g=p at hos;unfold pdJ at hos;simp only[Sm,o6,Nh,iy]at hos;obtain⟨g20,g21,g22,g23⟩:=hos;refine⟨[],dG,fun b hb=>(by cases hb),rfl,rfl,fun j b o hj=>(by cases hj),fun j o hj hm ho=>?_⟩
   match j,hm,ho with
   | 0,_,ho=>cases ho;exact⟨_,rfl,g20⟩
   | 1,_,ho=>cases ho;exact⟨_,rfl,g21⟩
   | 2,_,ho=>cases ho;exact⟨_,rfl,g22⟩
   | 3,_,ho=>cases ho;exact⟨_,rfl,g23⟩
   | j+4,hm,_=>cases hm
  ·cases hx
 ·cases hx
abbrev aO:EK:=[.int .u8,.int .u8,.int .u8]
abbrev PF:=Int × Int × Int
def cPe:List GA:=[GQ CW [] smG,GQ EL [] ZV,GQ bH [] lY,GQ E0 [] yP,GQ Ay ptA pdG]
theorem zk:Ci cPe:= .cons xv <| .cons bw <| .cons jk <| .cons gu <| .cons xr .nil
abbrev XPe:Ctx:=Bp Tryz.prog AI (Cv cPe)
def ptB (b:Nat) (c:GP) (nx:Int) (ro:Bool):AP:= .cells [int c.n,int c.z,int c.r,int c.w,int c.k,int c.v,int c.p,At (b+1),At (b+2),At (b+3),int nx] 0 ro
def ptL (b:Nat) (c:GP) (p:IQ):BN:=[ptB b c p.nx false,.abs (.pack (.dev p.d)) false,.abs (.pack (.tab p.t)) false,.abs (.pack (.idx p.x)) false]
def peS:Stop:=⟨Ac,0,3,21,[20],[11,61,62,63]⟩
def zH (c:GP) (p:IQ) (l:List PF) (k:Nat) (i:Int):BT:=
 ⟨⟨Ac,EZ [(11,At 21),(61,Ao 20 k),(62,int k),(63,int i)],BD Ac,[.code (A9 Tryz.prog Ac [1,1,1,1,1,1,1,0,1,0,0]),.inLoop (A9 Tryz.prog Ac [1,1,1,1,1,1,1,0,1,0,0]),.inBlock 0,.code (A9 Tryz.prog Ac [1,1,1,1,1,1,1,1])],[],false,.normal,none⟩,[],
  hp (AP.vec aO l true::ptL 21 c p)⟩
def o8 (Q:Bm) (R:Bz) (x:BT):Prop:=Iy XPe (Ax cPe) [] Ac [22,23,24,20] peS [] Q R 900 x
def zD (a b c d e f g:Int) (m:Nat):Value:= .agg ⟨[.int .u8 a,.int .u8 b,.int .u8 c,.int .u8 d,.int .u8 e,.int .u8 f,.int .u8 g,Ao 20 m]⟩
def ch (l:List PF) (i:Int):PF:=List.getD l (0+i.toNat) (EK.BL aO)
theorem vA (c:GP) (p:IQ) (l:List PF) (k:Nat) (i:Int) (Q:Bm) (R:Bz):o8 Q R (zH c p l k i)=
 (bif decide (i < (k:Int))then bif decide (0<=i)&&Nat.blt i.toNat k then bif Nat.blt (0+i.toNat) l.length then Xk c p (ch l i).1 (ch l i).2.1 (ch l i).2.2/\R (zH c (qR c p (ch l i).1 (ch l i).2.1 (ch l i).2.2) l k (IntKind.wrap .i64 (i+1)))else False else False
 else Q (.tuple ⟨[At 21,.bool true]⟩) [some (.abs (.pack (.dev p.d)) false),some (.abs (.pack (.tab p.t)) false),some (.abs (.pack (.idx p.x)) false),some (.vec aO l true),some (ptB 21 c p.nx false)]):=by kernel_rfl
def AAI (c:GP):IQ:=⟨⟨(nf c.n.toNat c.z).map fun a=>⟨a,0,[]⟩,none,c.n,0,false⟩,NN c.n c.r,aN c.n.toNat,1⟩
def nh (m:Nat):Int:=if (60:Int) < Int.ofNat m then 60 else Int.ofNat m
def oF (m:Nat):Nat:=(nh m).toNat - 0
def KI (a b c d e f g:Int):GP:=zP a.toNat b.toNat c.toNat d.toNat e.toNat f.toNat g.toNat
theorem xA (a b c d e f g:Int) (l:List PF) (m:Nat) (Q:Bm) (R:Bz):o8 Q R (st Ac [zD a b c d e f g m] (hp [.vec aO l true]))=
 (((0<=a/\0<=b/\0<=c/\0<=d/\0<=e)/\(0<=f/\f < 256)/\0<=g/\g < 256)/\
 (2<=(KI a b c d e f g).n/\(KI a b c d e f g).n<=32/\1<=(KI a b c d e f g).z/\(KI a b c d e f g).z<=8192)/\
 (4<=(KI a b c d e f g).n/\(KI a b c d e f g).n<=9/\0<=(KI a b c d e f g).r/\(KI a b c d e f g).r<=(KI a b c d e f g).n)/\
 (1<=(KI a b c d e f g).n/\(KI a b c d e f g).n<=32)/\
 bif decide (0<=nh m)&&Nat.ble (nh m).toNat m&&decide ((0:Nat)<=0)&&Nat.ble 0 (nh m).toNat then R (zH (KI a b c d e f g) (AAI (KI a b c d e f g)) l (oF m) 0)else False):=by kernel_rfl
def doM (c:GP) (p:IQ) (m:PF):IQ:=qR c p m.1 m.2.1 m.2.2
def DoM (c:GP) (p:IQ) (m:PF):Prop:=Xk c p m.1 m.2.1 m.2.2
def VB (c:GP) (l:List PF):Nat->Nat->IQ->IQ
 | 0,_,p=>p
 | n+1,i,p=>VB c l n (i+1) (doM c p (ch l (i:Nat)))
def SD (c:GP) (l:List PF):Nat->Nat->IQ->Prop
 | 0,_,_=>True
 | n+1,i,p=>DoM c p (ch l (i:Nat))/\SD c l n (i+1) (doM c p (ch l (i:Nat)))
theorem ia {Q:Bm} {R:Bz} {Q':Ih} {y:BT} (hQ:∀v H,Q v (([22,23,24,20]++Au 4 v).map H.get)->Q' v H) (hR:∀y,R y->AX XPe 21 Ac Q' y) (h:o8 Q R y):AX XPe 21 Ac Q' y:=
 by unfold o8 at h;exact Bq zk.pf [] [22,23,24,20] peS [] (by kernel_rfl) (show 21<=21 from GO _) Q R hQ hR h
section
variable {c:GP} {l:List PF} {k:Nat}
def u0 (c:GP) (l:List PF) (p:IQ) (v:Value) (H:AA):Prop:=v= .tuple ⟨[At 21,.bool true]⟩/\[22,23,24,20,21].map H.get=[some (.abs (.pack (.dev p.d)) false),some (.abs (.pack (.tab p.t)) false),some (.abs (.pack (.idx p.x)) false),some (.vec aO l true),some (ptB 21 c p.nx false)]
theorem rz (hk:k<=l.length) (hk2:k<=60):∀(n i:Nat) (p:IQ),k - i=n->i<=k->SD c l n i p->AX XPe 21 Ac (u0 c l (VB c l n i p)) (zH c p l k (i:Nat)):=by
 intro n;induction n with
 | zero=>
  intro i p hn hi _;have e:i=k:=by omega
  subst e;refine ia (Q:=fun v os=>v= .tuple ⟨[At 21,.bool true]⟩/\os=[some (.abs (.pack (.dev p.d)) false),some (.abs (.pack (.tab p.t)) false),some (.abs (.pack (.idx p.x)) false),some (.vec aO l true),some (ptB 21 c p.nx false)]) (R:=fun _=>False) (fun v H hq=>?_) (fun y h=>h.elim) ?_
  ·obtain⟨rfl,hos⟩:=hq;exact⟨rfl,hos⟩
  ·rw[vA];exact AZ (MC (by omega)) ⟨rfl,rfl⟩
 | succ n ih=>
  intro i p hn hi hall;obtain⟨h1,h2⟩:=hall;have hlt:i < k:=by omega
  refine ia (Q:=fun _ _=>False) (R:=fun y=>y=zH c (doM c p (ch l (i:Nat))) l k ((i+1:Nat):Int)) (fun v H h=>h.elim) (fun y hy=>?_) ?_
  ·rw[hy];exact ih (i+1) _ (by omega) (by omega) h2
  ·rw[vA];have hw:IntKind.wrap .i64 ((i:Int)+1)=((i+1:Nat):Int):=by rw[wrap64 (by omega) (by omega)];rfl
   rw[hw];exact AB (KE (by omega)) (AB (by rw[MG];exact EI hlt) (AB (by rw[MG,RP];exact Gc (by omega)) ⟨h1,rfl⟩))
end
theorem X5 (m:Nat):oF m<=m/\oF m<=60:=by
 unfold oF nh;split
 ·rename_i h;have h:(60:Int) < (m:Int):=h;show Int.toNat 60 - 0<=m/\Int.toNat 60 - 0<=60;have:Int.toNat 60=60:=rfl;omega
 ·rename_i h;have h:¬(60:Int) < (m:Int):=h;show m - 0<=m/\m - 0<=60;omega
theorem zU (m:Nat):(decide (0<=nh m)&&Nat.ble (nh m).toNat m&&decide ((0:Nat)<=0)&&Nat.ble 0 (nh m).toNat)=true:=by
 have h1:(nh m).toNat<=m:=(X5 m).1;have h0:(0:Int)<=nh m:=by
  unfold nh;split
  ·decide
  ·exact uf m
 rw[KE h0,Ez h1,Ez (ay _)];rfl
structure AAJ (x:Int):Prop where
 lo:0<=x
 hi:x < 256
structure dw (a b c d e f g:Int):Prop where
 a:AAJ a
 b:AAJ b
 c:AAJ c
 d:AAJ d
 e:AAJ e
 f:AAJ f
 g:AAJ g
theorem AAC {a b c d e f g:Int} (h:dw a b c d e f g):4<=(KI a b c d e f g).n/\(KI a b c d e f g).n<=9/\2<=(KI a b c d e f g).r/\(KI a b c d e f g).r+2<=(KI a b c d e f g).n/\34<=(KI a b c d e f g).z/\(KI a b c d e f g).z<=316/\2<=(KI a b c d e f g).k/\(KI a b c d e f g).k<=6/\
 0<=(KI a b c d e f g).v/\(KI a b c d e f g).v<=23/\32+(KI a b c d e f g).k+(KI a b c d e f g).v<=(KI a b c d e f g).z:=by
 unfold KI zP;have f0:=h.f.lo;have f1:=h.f.hi;simp only;refine⟨?_,?_,?_,?_,?_,?_,?_,?_,?_,?_,?_⟩<;>omega
def xy (c:GP) (l:List PF) (m:Nat):IQ:=VB c l (oF m) 0 (AAI c)
def meG (args:AL) (objs:BN):GT:=match args,objs with
 | [.agg ⟨[.int .u8 a,.int .u8 b,.int .u8 c,.int .u8 d,.int .u8 e,.int .u8 f,.int .u8 g,.slice (some ⟨20,0,some 0⟩) m 18446744073709551616]⟩],[.vec [.int .u8,.int .u8,.int .u8] l _]=>
  .ask (dw a b c d e f g/\m<=l.length/\SD (KI a b c d e f g) l (oF m) 0 (AAI (KI a b c d e f g))) (.ret ⟨.tuple ⟨[At 21,.bool true]⟩,[],ptL 21 (KI a b c d e f g) (xy (KI a b c d e f g) l m)⟩)
 | _,_=> .fail
theorem Y4:CY Tryz.prog AI Ac (Ai AI 20 [] meG):=by
 refine BF zk.all (by kernel_rfl) (n:=BD Ac) (by kernel_rfl) (by kernel_rfl) fun argsc objs y hx hro=>?_
 clear hro;unfold meG at hx;split at hx
 ·rename_i a b c d e f g m l ro;simp only[GT.run]at hx;split at hx
  ·rename_i h;cases hx
   obtain⟨hs,hm,hall⟩:=h;obtain⟨r1,r2,r3,r4,r5,r6,_⟩:=AAC hs;refine⟨BE (by kernel_rfl),Ak.mono (AX.Fh (Q:=u0 (KI a b c d e f g) l (xy (KI a b c d e f g) l m)) ?_) ?_⟩
   ·refine ia (Q:=fun _ _=>False) (R:=fun y=>y=zH (KI a b c d e f g) (AAI (KI a b c d e f g)) l (oF m) ((0:Nat):Int)) (fun v H h=>h.elim) (fun y hy=>?_) (y:=st Ac [zD a b c d e f g m] (hp [.vec aO l true])) ?_
    ·rw[hy];obtain⟨k1,k2⟩:=X5 m;exact rz (by omega) k2 _ 0 _ rfl (ay _) hall
    ·rw[xA];exact⟨⟨⟨hs.a.lo,hs.b.lo,hs.c.lo,hs.d.lo,hs.e.lo⟩,⟨hs.f.lo,hs.f.hi⟩,hs.g.lo,hs.g.hi⟩,⟨by omega,by omega,by omega,by omega⟩,⟨r1,r2,by omega,by omega⟩,⟨by omega,by omega⟩,AB (zU m) rfl⟩
   ·rintro v H ⟨rfl,hos⟩;generalize xy (KI a b c d e f g) l m=p at hos;simp only[Sm,o6,Nh,iy]at hos;obtain⟨g22,g23,g24,g20,g21⟩:=hos;refine⟨[21,22,23,24],by decide,fun b hb=>?_,rfl,rfl,fun j b o hj ho=>?_,fun j o hj hm=>?_⟩
    ·simp only[Ul,bG,vK]at hb;show 21<=b;omega
    ·match j,hj,ho with
     | 0,hj,ho=>cases hj;cases ho;exact⟨_,rfl,g21⟩
     | 1,hj,ho=>cases hj;cases ho;exact⟨_,rfl,g22⟩
     | 2,hj,ho=>cases hj;cases ho;exact⟨_,rfl,g23⟩
     | 3,hj,ho=>cases hj;cases ho;exact⟨_,rfl,g24⟩
     | j+4,hj,_=>cases hj
    ·cases hm
  ·cases hx
 ·cases hx
def cLn:List GA:=[(BZ,Rq,Vx)]
theorem zR:Ci cLn:= .other Qy R4 .nil
abbrev zE:Ctx:=Bp Tryz.prog AI (Cv cLn)
abbrev AAK:AW:=[20,21,22,23,24,25]
def lnS:Stop:=⟨AO,0,3,26,AAK,[3,11,12,13]⟩
def ixR (ns nk:Nat) (row:List (EK.C [.tok])) (krow:Cq) (LS LK:FZ):BN:=[.cells [At 21,Ao 22 ns] 0 false,.cells [.bool true,Ao 23 nk] 0 false,.vec [.tok] row false,.vec EV krow false,.abs (.mem Ah LS) false,.abs (.mem Ah LK) false]
def zI (ns nk:Nat) (row:List (EK.C [.tok])) (krow:Cq) (LS LK:FZ) (n i:Int):BT:=
 ⟨⟨AO,EZ [(3,int n),(11,Ao 22 ns),(12,int ns),(13,int i)],BD AO,[.code (A9 Tryz.prog AO [1,1,0,1,0,1,0,0]),.inLoop (A9 Tryz.prog AO [1,1,0,1,0,1,0,0]),.inBlock 0,.code (A9 Tryz.prog AO [1,1,1])],[],false,.normal,none⟩,[],hp (ixR ns nk row krow LS LK)⟩
def qw (ids:AW) (l:List (EK.C [.tok])):List (EK.C [.tok]):=List.map (Np (Fw 26 ids)) l
def pI (ids:AW) (l:Cq):Cq:=YJ (Fw 26 ids) l
def qd (Q:Bm) (R:Bz) (c:BT):Prop:=Iy zE (Ax cLn) [] AO AAK lnS [] Q R 900 c
theorem wE (ns nk:Nat) (row:List (EK.C [.tok])) (krow:Cq) (LS LK:FZ) (Q:Bm) (R:Bz):qd Q R (st AO [At 20] (hp (ixR ns nk row krow LS LK)))=(
 (0 < ns)/\(R (zI ns nk (qw [] row) (pI [] krow) LS LK 0 0))):=by kernel_rfl
theorem uV (ns nk:Nat) (row:List (EK.C [.tok])) (krow:Cq) (LS LK:FZ) (n i:Int) (Q:Bm) (R:Bz):qd Q R (zI ns nk row krow LS LK n i)=(
 let a:=SK.enc SK.tok (List.getD row (0+i.toNat) (EK.BL [SK.tok]));(bif decide (i < (ns:Int))then(bif decide (0<=i)&&Nat.blt i.toNat ns then(bif Nat.blt (0+i.toNat) row.length&&jT a then(R (zI ns nk (qw [] row) (pI [] krow) LS LK (IntKind.wrap .i64 (n+Int.ofNat (qL a))) (IntKind.wrap .i64 (i+1))))else False)else False)else(Q (int n) [some (.cells [(At 21),(Ao 22 ns)] 0 false),some (.cells [(.bool true),(Ao 23 nk)] 0 false),some (.vec [SK.tok] row false),some (.vec EV krow false),some (.abs (Ct.mem Ah LS) false),some (.abs (Ct.mem Ah LK) false)]))):=by kernel_rfl
def M1 (S:List (Aw)):Nat:=S.foldr (fun l n=>l.length+n) 0
theorem VR:∀(S:List (Aw)) (i:Nat),i < S.length->M1 (S.take (i+1))=M1 (S.take i)+(S.getD i []).length
 | l::S,0,_=>by show l.length+0=0+l.length;omega
 | l::S,i+1,h=>by
  show l.length+M1 (S.take (i+1))=l.length+M1 (S.take i)+(S.getD i []).length;rw[VR S i (by simpa using h)];omega
theorem jF:∀(S:List (Aw)) (i:Nat),M1 (S.take i)<=M1 S
 | [],i=>by rw[ABQ];exact GO _
 | l::S,0=>ay _
 | l::S,i+1=>by
  show l.length+M1 (S.take i)<=l.length+M1 S;have:=jF S i;omega
structure WO (x:Cm):Prop where
 l0:0 < x.AR.length
 l1:x.AR.length<=32
 s1:M1 x.AR<=1000000
theorem lU {Q:Bm} {R:Bz} {Q':Ih} {y:BT} (hQ:∀v H,Q v ((AAK++Au 4 v).map H.get)->Q' v H) (hR:∀y,R y->AX zE 26 AO Q' y) (h:qd Q R y):AX zE 26 AO Q' y:=by
 unfold qd at h;exact Bq zR.pf [] AAK lnS [] (by kernel_rfl) (show 26<=26 from GO _) Q R hQ hR h
theorem Rj {S:List (Aw)} {a N:Nat} (ha:a < N):∀v∈GL a S,eX N v:=by
 intro v h;unfold GL at h;obtain⟨p,_,rfl⟩:=List.mem_map.1 h;exact⟨a,1,some p.2,_,_,rfl,ha⟩
theorem TG {K:List (As × Aw)} {N b:Nat} (hb:b < N):∀p∈Df b K,eX N p.2:=by
 intro p hp;unfold Df at hp;obtain⟨t,_,rfl⟩:=List.mem_map.1 hp;exact⟨b,1,some t.2,_,_,rfl,hb⟩
def Yk (x:Cm):BN:=ixR x.AR.length x.keys.length (GL 24 x.AR) (Df 25 x.keys) (x.AR.map some) (DY x.keys)
theorem q7 {x:Cm} (h:WO x):∀(n i:Nat),x.AR.length - i=n->i<=x.AR.length->AX zE 26 AO (fun v H=>v=int (M1 x.AR:Nat)/\AAK.map H.get=(Yk x).map some) (zI x.AR.length x.keys.length (GL 24 x.AR) (Df 25 x.keys) (x.AR.map some) (DY x.keys) (M1 (x.AR.take i):Nat) (i:Nat)):=by
 have l1:=h.l1;have e1:qw [] (GL 24 x.AR)=GL 24 x.AR:=I4 _ _ (Rj (by decide));have e2:pI [] (Df 25 x.keys)=Df 25 x.keys:=Mp _ _ (TG (by decide));intro n;induction n with
 | zero=>
  intro i hn hi;have e:i=x.AR.length:=by omega
  subst e;refine lU (Q:=fun v os=>v=int (M1 x.AR:Nat)/\os=(Yk x).map some) (R:=fun _=>False) (fun v H hq=>?_) (fun y h=>h.elim) ?_
  ·obtain⟨rfl,hos⟩:=hq;exact⟨rfl,hos⟩
  ·rw[uV];(conv=>zeta);rw[Nw (GO _)]
   exact AZ (MC (by omega)) ⟨rfl,rfl⟩
 | succ n ih=>
  intro i hn hi;have hlt:i < x.AR.length:=by omega
  refine lU (Q:=fun _ _=>False) (R:=fun y=>y=zI x.AR.length x.keys.length (GL 24 x.AR) (Df 25 x.keys) (x.AR.map some) (DY x.keys) (M1 (x.AR.take (i+1)):Nat) ((i+1:Nat):Int)) (fun v H h=>h.elim) (fun y hy=>?_) ?_
  ·rw[hy];exact ih (i+1) (by omega) (by omega)
  ·rw[uV];(conv=>zeta);rw[e1,e2]
   have hg:List.getD (GL 24 x.AR) i (EK.BL [.tok])=Value.slice (some ⟨24,1,some i⟩) (x.AR.getD i []).length cU:=by
    rw[Kd,M7,Kd,Jj hlt];rfl
   have hs1:=h.s1;have hle:=jF x.AR (i+1);have htk:=VR x.AR i hlt;have hw:IntKind.wrap .i64 ((i:Int)+1)=((i+1:Nat):Int):=by rw[wrap64 (by omega) (by omega)];rfl
   rw[hw];simp only[MG,RP,hg];refine AB (KE (by omega)) (AB (EI hlt) (AB ?_ ?_))
   ·rw[Gc (show i < (GL 24 x.AR).length by rw[DS];exact hlt)];rfl
   ·have e3:IntKind.wrap .i64 ((M1 (x.AR.take i):Nat)+Int.ofNat (qL (SK.enc .tok (Value.slice (some ⟨24,1,some i⟩) (x.AR.getD i []).length cU))))=((M1 (x.AR.take (i+1)):Nat):Int):=by
     show IntKind.wrap .i64 (((M1 (x.AR.take i):Nat):Int)+((x.AR.getD i []).length:Int))=_;rw[wrap64 (by omega) (by omega)];omega
    rw[e3]
def lnQ:Gk:=fun p rest os=>match p,rest,os with
 | .idx x,[],[]=> .ask (WO x) (.ret ⟨int (M1 x.AR:Nat),.idx x,[]⟩)
 | _,_,_=> .fail
theorem sM {base:Env} {W0 W:World} {μ:Ae} {H:AA} {x:Cm} (hH:AJ base W0 μ H W) (hd:∀z,20<=z/\z < 26->∃T,μ z=some T) (hos:AAK.map H.get=(Yk x).map some):AJ base W0 μ (Le (.idx x) [20,21,22,23,24,25] H) W/\(Le (.idx x) [20,21,22,23,24,25] H).get 20=some (.abs (.pack (.idx x)) false):=by
 unfold Yk ixR at hos;simp only[Sm,o6,Nh,iy]at hos;obtain⟨g20,g21,g22,g23,g24,g25⟩:=hos;exact bE hH (m:=21) (r:=22) (y:=23) (a:=24) (b:=25) ⟨by decide,g20,g21,g22,g23,g24,g25⟩ fun z hz=>hd z (by simp at hz;omega)
theorem wA {x:Cm} (h:WO x):Ak zE 26 (fun b=>20<=b/\b < 26) AO (fun v H=>v=int (M1 x.AR:Nat)/\H.get 20=some (.abs (.pack (.idx x)) false)) (st AO [At 20] (hp (Vi x))):=by
 have hrun:AX zE 26 AO (fun v H=>v=int (M1 x.AR:Nat)/\AAK.map H.get=(Yk x).map some) (st AO [At 20] (hp (Yk x))):=by
  refine lU (Q:=fun _ _=>False) (R:=fun y=>y=zI x.AR.length x.keys.length (GL 24 x.AR) (Df 25 x.keys) (x.AR.map some) (DY x.keys) (M1 (x.AR.take 0):Nat) ((0:Nat):Int)) (fun v H h=>h.elim) (fun y hy=>?_) ?_
  ·rw[hy];exact q7 h _ 0 rfl (ay _)
  ·unfold Yk;rw[wE];have e1:qw [] (GL 24 x.AR)=GL 24 x.AR:=I4 _ _ (Rj (by decide));have e2:pI [] (Df 25 x.keys)=Df 25 x.keys:=Mp _ _ (TG (by decide));rw[e1,e2];exact⟨h.l0,rfl⟩
 refine AX.iW hrun ?_;intro v H base W0 W μ hQ hD hH;obtain⟨rfl,hos⟩:=hQ;obtain⟨r1,r2⟩:=sM hH (fun z hz=>hD z hz) hos;exact⟨_,_,⟨rfl,r2⟩,fun v' hv=>⟨μ,Ae.le_refl _,r1,hv⟩⟩
theorem yf:CY Tryz.prog AI AO (Ai AI 20 [true] (CX 20 lnQ)):=by
 refine aP zR.all (by kernel_rfl) (by kernel_rfl) (n:=BD AO) (by kernel_rfl) (fun _=>rfl) fun s rest os=>?_
 unfold lnQ;split
 ·rename_i x;intro hok;refine⟨BE (by kernel_rfl),fun objs hr=>?_⟩;obtain⟨hl,hO⟩:=ai x objs hr;refine⟨_,26,hO,BE (by kernel_rfl),?_⟩;refine Ak.sub (Ak.mono (wA hok) ?_) fun b hb=>?_
  ·rintro v H ⟨rfl,g20⟩;refine⟨[],dG,fun b hb=>(by cases hb),rfl,rfl,fun j b o hj=>(by cases hj),fun j o hj hm ho=>?_⟩;have hj:j=0:=by have hj:j < 0+1:=hj;omega
   subst hj;cases ho
   exact⟨_,rfl,g20⟩
  ·rw[hl];refine⟨b - 20,by omega,?_⟩;show b=if b - 20=0 then 20 else 20+(0+1)+(b - 20 - 1)
   split<;>omega
 ·exact trivial
def cBy:List GA:=[(DQ,Ai AI 20 [true] (CX 20 (HK fun m=>m.b.length)),Cs AI 20 [true] (CX 20 oa)),(Cb,Ai AI 20 [true] (CX 20 M4),Cs AI 20 [true] (CX 20 fR))]
theorem z6:Ci cBy:= .OG Sz Ws <| .OG YH bU .nil
abbrev XBy:Ctx:=Bp Tryz.prog AI (Cv cBy)
def byO (c:GP) (p:IQ):BN:=[zC c p.nx true,.abs (.pack (.dev p.d)) false,.abs (.pack (.tab p.t)) false,.abs (.pack (.idx p.x)) false]
theorem zb (c:GP) (p:IQ) (s:Int) (Q:Bm):CU XBy (Ax cBy) [] Al [20,21,22,23] 24 Q 300 (st Al [At 20,int s] (hp (byO c p)))=(
 let e:=A8 (IQ.d p) s;let b:=Ab.BB (IQ.d p);let a:=Ed (IQ.d p) s 0 e;(Ab.down (IQ.d p)=false/\Ba b s=false)/\((Bool.rec (bif Ba b s then false else !Ij (CV (IQ.d p) s) 0 e) false (Ab.down (IQ.d p)))=(true))/\(Q (Ao 24 a.length) [some (.cells [(int (GP.n c)),(int (GP.z c)),(int (GP.r c)),(int (GP.w c)),(int (GP.k c)),(int (GP.v c)),(int (GP.p c)),(At 21),(At 22),(At 23),(int (IQ.nx p))] 0 true),some (.abs (Ct.pack (PL.nx { v:=Value.tuple { toList:=[Ao 21 a.length,int 0] },nx:=Pk.dev (IQ.d p),news:=[AP.vec kB a false] })) false),some (.abs (Ct.pack (Pk.tab (IQ.t p))) false),some (.abs (Ct.pack (Pk.idx (IQ.x p))) false),some (.vec ([SK.int IntKind.u8]) a false)])):=by kernel_rfl
def zc (dn:Bool):List GA:=[GQ Fp [true] (CX 20 Tv),GQ DT [true] (CX 20 (FT (fun d=>int d.AR) id)),ON Di (.bool dn) (FT (fun d=> .bool d.down) id),
 GQ Dm [true] (CX 20 PJ),(B0,Ai AI 20 [true] (CX 20 (HK fun m=>IntKind.wrap .i64 ((m.b.length:Int) - m.Ej))),Cs AI 20 [true] (CX 20 pG)),GQ CI [true] (CX 20 (TB Cn fun _=>false))]
theorem zO (dn:Bool):Ci (zc dn):= .cons Xr <| .cons Ox <| .OG QK (M0 _ _) <| .cons NJ <| .OG OR Vs <| .cons RE .nil
abbrev XWs:Ctx:=Bp Tryz.prog AI (Cv (zc true))
def wsO (d:Ab) (t:xB):BN:=[.abs (.pack (.dev d)) false,.abs (.pack (.tab t)) false]
theorem zW (d:Ab) (t:xB) (Q:Bm):CU XWs (Ax (zc false)) [] HU [20,21] 22 Q 400 (st HU [At 20,At 21] (hp (wsO d t)))=(
 let f:=((xB.st t).length:Int);let c:AP:= .abs (Ct.pack (PL.nx { v:=Value.tuple { toList:=[int (Bo t 1),Value.bool true] },nx:=Pk.tab t,news:=[] })) false;let b:=id (id (id d));let a:AP:= .abs (Ct.pack (PL.nx { v:=Value.tuple { toList:=[int f,int (xB.res t)] },nx:=Pk.tab t,news:=[] })) false;let e:Prop:=Q (int 1) [some (.abs (Ct.pack (PL.nx { v:=int (Ab.AR d),nx:=Pk.dev (id d),news:=[] })) false),some a];(bif Ab.AR d==0 then e else(bif f==0 then e else(bif Ab.AR (id d) != f then(Q (int 2) [some (.abs (Ct.pack (PL.nx { v:=int (Ab.AR (id d)),nx:=Pk.dev (id (id d)),news:=[] })) false),some a])else(((.bool (Ab.down (id (id d)))):Value)=(.bool false))/\(bif IT t 1 then(Ab.down b=false/\Ba (Ab.BB b) (Bo t 1)=false)/\(bif FU b (Bo t 1)==0 then(Q (int 0) [some (.abs (Ct.pack (PL.nx { v:=DE (FU b (Bo t 1)) 0,nx:=Pk.dev b,news:=[] })) false),some c])else(Q (int (Ma b (Bo t 1) Cn fun _=>false).1) [some (.abs (Ct.pack (PL.nx { v:=int (Ma b (Bo t 1) Cn fun _=>false).1,nx:=Pk.dev (Ma b (Bo t 1) Cn fun _=>false).2,news:=[] })) false),some c]))else(Ab.down b=false/\Ba (Ab.BB b) 0=false)/\(Q (int 0) [some (.abs (Ct.pack (PL.nx { v:=DE (FU b 0) 0,nx:=Pk.dev b,news:=[] })) false),some (.abs (Ct.pack (PL.nx { v:=Value.tuple { toList:=[int 0,Value.bool false] },nx:=Pk.tab t,news:=[] })) false)])))))):=by kernel_rfl
def byG (args:AL) (objs:BN):GT:=match args,objs with
 | [.pointer (some ⟨20,0,none⟩),.int .i64 s],[.cells [.int .i64 _,.int .i64 _,.int .i64 _,.int .i64 _,.int .i64 _,.int .i64 _,.int .i64 _,.pointer (some ⟨21,0,none⟩),.pointer (some ⟨22,0,none⟩),.pointer (some ⟨23,0,none⟩),.int .i64 _] 0 _,.abs (.pack (.dev d)) _,.abs (.pack (.tab t)) _,.abs (.pack (.idx x)) _]=>
  .ask ((d.down=false/\Ba d.BB s=false)/\Kj d s 0 (A8 d s)=true) (.ret ⟨Ao 24 (Ed d s 0 (A8 d s)).length,[(none:Option AP),some (.abs (.pack (.dev d)) false),some (.abs (.pack (.tab t)) false),some (.abs (.pack (.idx x)) false)],[.vec kB (Ed d s 0 (A8 d s)) false]⟩)
 | _,_=> .fail
theorem lu {d:Ab} {s a k:Int} (h:Kj d s a k=true):(Bool.rec (motive:=fun _=>Bool) (bif Ba d.BB s then false else !Ij (CV d s) a k) false d.down)=true:=by
 unfold Kj at h;cases hd:d.down
 ·rw[hd]at h;exact h
 ·rw[hd]at h;exact h
theorem y9:CY Tryz.prog AI Al (Ai AI 20 zJ byG):=by
 refine BF z6.all (by kernel_rfl) (n:=BD Al) (by kernel_rfl) (by kernel_rfl) fun argsc objs y hx hro=>?_
 unfold byG at hx;split at hx
 ·rename_i s a0 a1 a2 a3 a4 a5 a6 nx ro0 d ro1 t ro2 x ro3;have hr1:ro1=false:=hro 1 _ rfl rfl;have hr2:ro2=false:=hro 2 _ rfl rfl;have hr3:ro3=false:=hro 3 _ rfl rfl;subst hr1 hr2 hr3;simp only[GT.run]at hx;split at hx
  ·rename_i h;cases hx
   obtain⟨h1,h2⟩:=h;have hv:CU XBy (Ax cBy) [] Al [20,21,22,23] 24 (fun v os=>v=Ao 24 (Ed d s 0 (A8 d s)).length/\os=[some (zC ⟨a0,a1,a2,a3,a4,a5,a6⟩ nx true),some (.abs (.pack (.dev d)) false),some (.abs (.pack (.tab t)) false),some (.abs (.pack (.idx x)) false),some (.vec kB (Ed d s 0 (A8 d s)) false)]) 300 (st Al [At 20,int s] (hp (byO ⟨a0,a1,a2,a3,a4,a5,a6⟩ ⟨d,t,x,nx⟩))):=by
    rw[zb];exact⟨h1,lu h2,rfl,rfl⟩
   refine⟨BE (by kernel_rfl),Ak.mono (AX.Fh (BK z6.pf (by kernel_rfl) hv)) ?_⟩;rintro v H ⟨rfl,hos⟩
   change H.get 20::H.get 21::H.get 22::H.get 23::[H.get 24]=_ at hos
   simp only[Nh,iy]at hos;obtain⟨g20,g21,g22,g23,g24⟩:=hos;refine⟨[24],by decide,fun b hb=>(by rw[Q4]at hb;rw[hb];show 24<=24;decide),rfl,rfl,fun j b o hj ho=>?_,fun j o hj hm ho=>?_⟩
   ·match j,hj,ho with
    | 0,hj,ho=>cases hj;cases ho;exact⟨_,rfl,g24⟩
    | j+1,hj,_=>cases hj
   ·match j,hm,ho with
    | 0,hm,_=>cases hm
    | 1,_,ho=>cases ho;exact⟨_,rfl,g21⟩
    | 2,_,ho=>cases ho;exact⟨_,rfl,g22⟩
    | 3,_,ho=>cases ho;exact⟨_,rfl,g23⟩
    | j+4,hm,_=>cases hm
  ·cases hx
 ·cases hx
def Lm (d:Ab) (t:xB):Int × Ab:=bif IT t 1 then bif FU d (Bo t 1)==0 then(0,d)else De d (Bo t 1)else(0,d)
structure V4 (d:Ab) (t:xB):Prop where
 s0:d.AR=(t.st.length:Int)
 s1:0 < d.AR
 dn:d.down=false
 b0:Ba d.BB 0=false
 ba:IT t 1=true->Ba d.BB (Bo t 1)=false
def zi (args:AL) (objs:BN):GT:=match args,objs with
 | [.pointer (some ⟨20,0,none⟩),.pointer (some ⟨21,0,none⟩)],[.abs (.pack (.dev d)) _,.abs (.pack (.tab t)) _]=> .ask (V4 d t) (.ret ⟨int (Lm d t).1,[some (.abs (.pack (.dev (Lm d t).2)) false),some (.abs (.pack (.tab t)) false)],[]⟩)
 | _,_=> .fail
abbrev twM:List Bool:=[true,true]
theorem y7:CY Tryz.prog AI HU (Ai AI 20 twM zi):=by
 refine BF (zO true).all (by kernel_rfl) (n:=BD HU) (by kernel_rfl) (by kernel_rfl) fun argsc objs y hx hro=>?_
 unfold zi at hx;split at hx
 ·rename_i d ro1 t ro2;have hr1:ro1=false:=hro 0 _ rfl rfl;have hr2:ro2=false:=hro 1 _ rfl rfl;subst hr1 hr2;simp only[GT.run]at hx;split at hx
  ·rename_i h;cases hx
   obtain⟨s0,s1,dn,b0,ba⟩:=h;have hv:CU XWs (Ax (zc false)) [] HU [20,21] 22 (fun v os=>v=int (Lm d t).1/\os=[some (.abs (.pack (.dev (Lm d t).2)) false),some (.abs (.pack (.tab t)) false)]) 400 (st HU [At 20,At 21] (hp (wsO d t))):=by
    rw[zW];refine AZ (oH.2 (by omega)) (AZ (oH.2 (by omega)) (AZ (by show(d.AR != _)=false;rw[s0];simp) ⟨congrArg Value.bool dn,?_⟩));unfold Lm;cases h1:IT t 1
    ·exact AZ rfl ⟨⟨dn,b0⟩,rfl,rfl⟩
    ·refine AB rfl ⟨⟨dn,ba h1⟩,?_⟩;show bif FU d (Bo t 1)==0 then _ else _
     cases h2:FU d (Bo t 1)==0
     ·exact AZ rfl ⟨rfl,rfl⟩
     ·exact AB rfl ⟨rfl,rfl⟩
   have hpf:HO XWs (Ax (zc false)):=(zO false).pf;refine⟨BE (by kernel_rfl),Ak.mono (AX.Fh (BK hpf (by kernel_rfl) hv)) ?_⟩;rintro v H ⟨rfl,hos⟩
   change [H.get 20,H.get 21]=_ at hos
   simp only[Nh,iy]at hos;obtain⟨g20,g21⟩:=hos;refine⟨[],dG,fun b hb=>(by cases hb),rfl,rfl,fun j b o hj=>(by cases hj),fun j o hj hm ho=>?_⟩
   match j,hm,ho with
   | 0,_,ho=>cases ho;exact⟨_,rfl,g20⟩
   | 1,_,ho=>cases ho;exact⟨_,rfl,g21⟩
   | j+2,hm,_=>cases hm
  ·cases hx
 ·cases hx
def uw:DO:=fun args H=>match args with
 | []=>some (.bool true,H)
 | _=>none
def yQ:HL:=fun args H K=>match args with
 | []=>K (.bool true) H
 | _=>False
theorem tL:Xf uw yQ:=fun X f hX args H K h=>by
 unfold yQ at h;split at h
 ·exact⟨_,_,by unfold CP;rw[hX];rfl,h⟩
 ·exact h.elim
def bqG (args:AL) (objs:BN):GT:=match args,objs with
 | [.slice (some ⟨20,0,some 0⟩) n 18446744073709551616,.slice (some ⟨21,0,some 0⟩) m 18446744073709551616],[.vec [.int .u8] l _,.vec [.int .u8] l2 _]=> .ask ((l=l2/\n=m)/\n=l.length/\n < 100000) (.ret ⟨.bool true,[],[]⟩)
 | _,_=> .fail
theorem zg (l l2:Ad) (n m:Nat) (Q:Bm):CU X0 Cz [] HR [] 22 Q 100 (st HR [Ao 20 n,Ao 21 m] (hp [.vec kB l true,.vec kB l2 true]))=(
 (bif Nat.ble (0+n) l.length then(bif Nat.ble (0+m) l2.length then(bif ByteArray.toList (Fy (List.take n (List.drop 0 l)))==ByteArray.toList (Fy (List.take m (List.drop 0 l2)))then(Q (.bool true) [])else(Q (.bool false) []))else False)else False)):=by kernel_rfl
theorem xb:CY Tryz.prog AI HR (Ai AI 20 [] bqG):=by
 refine BF (CO.nil _ _) (by kernel_rfl) (n:=BD HR) (by kernel_rfl) (by kernel_rfl) fun argsc objs x hx hro=>?_
 clear hro;unfold bqG at hx;split at hx
 ·rename_i n m l ro l2 ro2;simp only[GT.run]at hx;split at hx
  ·rename_i h;cases hx
   obtain⟨⟨rfl,rfl⟩,hn,-⟩:=h;have hv:CU X0 Cz [] HR [] 22 (fun v _=>v= .bool true) 100 (st HR [Ao 20 n,Ao 21 n] (hp [.vec kB l true,.vec kB l true])):=by
    rw[zg,RP];exact AB (Ez (by omega)) (AB (Ez (by omega)) (AB (by rw[AAS]) rfl))
   exact⟨BE (by kernel_rfl),Ak.mono (AX.Fh (BK (CB _) (by kernel_rfl) hv)) fun v H e=>by have e:v=_:=e;subst e;exact Ch rfl⟩
  ·cases hx
 ·cases hx
def wsA (args:AL) (objs:BN):GT:=match args,objs with
 | [.pointer (some ⟨20,0,none⟩),.pointer (some ⟨21,0,none⟩)],[.abs (.pack (.dev d)) _,.abs (.pack (.tab t)) _]=> .ask (V4 d t/\(Lm d t).1=0) (.ret ⟨int 0,[some (.abs (.pack (.dev (Lm d t).2)) false),some (.abs (.pack (.tab t)) false)],[]⟩)
 | _,_=> .fail
theorem qX:∀a o x,(wsA a o).run=some x->(zi a o).run=some x:=by
 intro a o x hx;unfold wsA at hx;unfold zi;split at hx
 ·simp only[GT.run]at hx ⊢;split at hx
  ·rename_i h;rw[MB h.1,h.2];exact hx
  ·cases hx
 ·cases hx
def x9:Gk:=FT (fun d=>int d.ops) id
def cWy:List GA:=[GQ Ac [] meG,GQ Dm [true] (CX 20 PJ),(B0,Ai AI 20 [true] (CX 20 (HK fun m=>IntKind.wrap .i64 ((m.b.length:Int) - m.Ej))),Cs AI 20 [true] (CX 20 pG)),
 GQ Al zJ byG,GQ AO [true] (CX 20 lnQ),GQ FL [true] (CX 20 x9),(HU,Ai AI 20 twM zi,Cs AI 20 twM wsA),GQ HR [] bqG,(HI,uw,yQ)]
theorem zQ (hW:CY Tryz.prog AI HI uw):Ci cWy:= .cons Y4 <| .cons NJ <| .OG OR Vs <| .cons y9 <| .cons yf <| .cons cZ <| .OG y7 qX <| .cons xb <| .other hW tL .nil
abbrev pR:Ctx:=Bp Tryz.prog AI (Cv cWy)
def wyS:Stop:=⟨AN,0,3,21,[20],[3,5,10,11,106,107]⟩
def sg (Q:Bm) (R:Bz) (c:BT):Prop:=Iy pR (Ax cWy) [] AN [] wyS [] Q R 900 c
def ptN (a b e:Nat) (c:GP) (nx:Int) (ro:Bool):AP:= .cells [int c.n,int c.z,int c.r,int c.w,int c.k,int c.v,int c.p,At a,At b,At e,int nx] 0 ro
def nz (c:GP) (nx:Int) (d:Ab) (t:xB) (x:Cm) (l:List PF) (bs:Ad) (s en i:Int):BT:=
 ⟨⟨AN,EZ [(3,At 21),(5,int s),(10,Ao 22 bs.length),(11,int en),(106,int c.n),(107,int i)],BD AN,[.code (A9 Tryz.prog AN [1,1,1,1,1,1,1,1,1,0,1,0,0]),.inLoop (A9 Tryz.prog AN [1,1,1,1,1,1,1,1,1,0,1,0,0]),.inBlock 0,.code (A9 Tryz.prog AN [1,1,1,1,1,1,1,1,1,1])],[],false,.normal,none⟩,[],
  hp [.vec aO l true,ptN 23 24 25 c nx false,.vec kB bs false,.abs (.pack (.dev d)) false,.abs (.pack (.tab t)) false,.abs (.pack (.idx x)) false]⟩
theorem nK (a b c d e f g:Int) (l:List PF) (m:Nat) (Q:Bm) (R:Bz):sg Q R (st AN [zD a b c d e f g m] (hp [.vec aO l true]))=(
 let E:=((int 0):Value)=(int 0);let D:=((At 25):Value)=(At 25);let y:Prop:=Q (.bool false) [];let v:=KI a b c d e f g;let s:=((At 22):Value)=(At 22);let r:Value:= .pointer (some ⟨22,9,none⟩);let h:=xy v l m;let I:=A8 (IQ.d h) 0;let G:=Ab.BB (IQ.d h);let F:=int (Ab.ops (IQ.d h));let B:=((M1 (Cm.AR (IQ.x h))):Int);let z:=Ab.ops (IQ.d h)+0;let p:=int (IntKind.wrap .i64 z);let o:=Bo (IQ.t h) 1;let H:=A8 (IQ.d h) o;let w:=Ab.down (IQ.d h)=false/\Ba G o=false;let n:=(F:Value)=F;let k:=int (if 1 < FU (IQ.d h) o then 1 else FU (IQ.d h) o);let j:=Lm (id (IQ.d h)) (IQ.t h);let A:=V4 (id (IQ.d h)) (IQ.t h)/\j.1=0;let q:=Lm (id j.2) (IQ.t h);let C:=V4 (id j.2) (IQ.t h)/\q.1=0;let i:=Ab.ops (IQ.d h)+if 1 < FU (IQ.d h) o then 1 else FU (IQ.d h) o;let u:=int (IntKind.wrap .i64 i);(dw a b c d e f g/\m<=l.length/\SD v l (oF m) 0 (AAI v))/\(bif IT (IQ.t h) 1 then w/\(w/\Kj (IQ.d h) o 0 H=true)/\D/\((r:Value)=r)/\s/\s/\(WO (IQ.x h))/\A/\((u:Value)=u)/\((k:Value)=k)/\n/\(bif Ab.ops j.2 != IntKind.wrap .i64 i then y else C/\((u:Value)=u)/\((k:Value)=k)/\n/\(bif Ab.ops q.2 != IntKind.wrap .i64 i then y else(R (nz v h.nx (id q.2) h.t h.x l (Ed (IQ.d h) o 0 H) o B 0))))else((Ab.down (IQ.d h)=false/\Ba G 0=false)/\Kj (IQ.d h) 0 0 I=true)/\D/\((r:Value)=r)/\s/\s/\(WO (IQ.x h))/\A/\((p:Value)=p)/\E/\n/\(bif Ab.ops j.2 != IntKind.wrap .i64 z then y else C/\((p:Value)=p)/\E/\n/\(bif Ab.ops q.2 != IntKind.wrap .i64 z then y else(R (nz v h.nx (id q.2) h.t h.x l (Ed (IQ.d h) 0 0 I) 0 B 0)))))):=by kernel_rfl
theorem vq (c:GP) (nx:Int) (d:Ab) (t:xB) (x:Cm) (l:List PF) (bs:Ad) (s en i:Int) (Q:Bm) (R:Bz):sg Q R (nz c nx d t x l bs s en i)=(
 let a:=Ed d s 0 (A8 d s);(bif decide (i < GP.n c)then(Ab.down d=false/\Ba (Ab.BB d) i=false)/\(bif FU d i != 0 then(Q (.bool false) [])else(R (nz c nx d t x l bs s en (IntKind.wrap .i64 (i+1)))))else((Ab.down d=false/\Ba (Ab.BB d) s=false)/\Kj d s 0 (A8 d s)=true)/\((Ed d s 0 (A8 d s)=bs/\a.length=bs.length)/\a.length=a.length/\a.length < 100000)/\(WO x)/\(bif ((M1 (Cm.AR x)):Int)==en then(Q (.bool true) [])else(Q (.bool false) [])))):=by kernel_rfl
end Go.AD
namespace Go.AD
open Go.Proofs
end Go.AD
namespace Go.AD
open Go.Proofs
end Go.AD
namespace Go.AD
open Go.Proofs
structure rL (l:Ad) (j n:Nat) (s:Int):Prop where
 hl:j+n<=l.length
 hb:n<=8192
 s0:0<=s
 s1:s < 32
def Tf (l:Ad) (j:Nat) (bs:Ad):Prop:=∀t,t < bs.length->l[j+t]? = bs[t]?
theorem Tf.left {l:Ad} {j:Nat} {A B:Ad} (h:Tf l j (A++B)):Tf l j A:=fun t ht=>by
 rw[h t (by rw[Pq];omega),jY ht]
theorem Tf.right {l:Ad} {j:Nat} {A B:Ad} (h:Tf l j (A++B)):Tf l (j+A.length) B:=fun t ht=>by
 have:=h (A.length+t) (by rw[Pq];omega);rw[lB (Nat.le_add_right _ _),AAl]at this;rw[jV,this]
theorem Tf.take {l:Ad} {j:Nat} {A:Ad} (h:Tf l j A):(l.drop j).take A.length=A:=by
 apply AAs
 intro t;rw[mM,mX];split
 ·rename_i ht;exact h t ht
 ·rename_i ht;rw[T6 (by omega)]
structure C2 where
 k:Nat
 q:Nat
 a:As
 b:As
def C2.ok (r:C2):Prop:=DR r.k r.q r.a r.b=true
def C2.bytes (r:C2):Ad:=E3 r.k r.q r.a r.b
def C2.size (r:C2):Nat:=Bu r.a r.b
theorem C2.len (r:C2):r.bytes.length=r.size:=E9 _ _ _ _
def B3 (rs:List C2):Ad:=rs.flatMap C2.bytes
def Ou (s:Int) (off:Nat) (r:C2):NQ:=((r.q:Int),r.a,(r.k:Int)==2,s,(off:Int),(r.size:Int))
def D4 (s:Int):Nat->List C2->Aw
 | _,[]=>[]
 | off,r::rs=>Ou s off r::D4 s (off+r.size) rs
theorem C2.Xo (r:C2):16<=r.size:=by unfold C2.size Bu;omega
structure lh (x:Cm) (used:Int->Prop) (c:Nat):Prop where
 key:∀p∈x.keys,∀e∈p.2,used e.1
 kl:x.keys.length<=c
 ll:∀p∈x.keys,p.2.length<=c
structure xe (ls:Aw) (o:Int):Prop where
 all:∀e∈ls,0<=e.2.2.2.2.1/\1<=e.2.2.2.2.2/\e.2.2.2.2.1+e.2.2.2.2.2<=o
theorem WT {l:Aw} {m:Nat} (h:m < l.length):DI l m∈l:=by
 unfold DI;rw[Kd,Jj h];exact AAX h
theorem ab {ls:Aw} {o:Int} (h:xe ls o):J7 ls o=ls.length:=by
 show Xc (fun m=>decide (G8 ls o m < 0)) ls.length 0 ls.length=ls.length;refine ZP _ ls.length ls.length 0 ls.length (by omega) (ay _) (GO _) fun m _ hm=>⟨fun _=>hm,fun _=>KE ?_⟩
 obtain⟨h0,h1,h2⟩:=h.all _ (WT hm);unfold G8 LP;have hlt:(DI ls m).2.2.2.2.1 < o:=by omega
 simp[hlt]
theorem nu {ls:Aw} {o z:Int} (h:xe ls o) (ho:o<=1000000):S4 ls o z=false:=by
 unfold S4;rw[ab h];unfold Z7;rw[MC (uB ls.length),AA2,AA2,yW,ABA]
 by_cases hl:(ls.length:Int) > 0
 ·obtain⟨h0,h1,h2⟩:=h.all _ (WT (l:=ls) (m:=ls.length - 1) (by omega));rw[wrap64 (by omega) (by omega),MC (show ¬(DI ls (ls.length - 1)).2.2.2.2.1+(DI ls (ls.length - 1)).2.2.2.2.2 > o from by omega),Bool.and_false]
 ·rw[MC hl,AA2]
theorem QC {q:Int} {a:As} {d:Bool} {s z:Int}:∀(l:Aw) (hv:Bool),(∀e∈l,e.1≠q)->Ke q a d s z l hv=some hv
 | [],_,_=>rfl
 | e::r,hv,h=>by
  have h1:(e.1==q)=false:=oH.2 (h e (nB ..));unfold Ke;have hb:Qk q a d z e=false:=by unfold Qk;rw[h1];rfl
  have hs:PB q s e=false:=by unfold PB;rw[h1];rfl
  rw[hb,hs,EB,ABA];exact QC r hv fun x hx=>h x (oo _ hx)
theorem lH {x:Cm} {used:Int->Prop} {c:Nat} (h:lh x used c) (a:As):(∀e∈Mz x a,used e.1)/\(Mz x a).length<=c:=by
 cases hh:Ie x a
 ·have:Mz x a=[]:=by unfold Mz;rw[hh];rfl
  rw[this];exact⟨fun e he=>(by cases he),ay _⟩
 ·obtain⟨k,hk,_⟩:=jN hh;have hm:=cA hk;exact⟨fun e he=>h.key _ hm e he,h.ll _ hm⟩
theorem jj {l:Aw} {i:Nat} {e y:NQ} (h:y∈HF l i e):y∈l∨y=e:=by
 unfold HF at h;rcases List.mem_append.1 h with h | h
 ·exact .inl (AAa h)
 ·rcases List.mem_cons.1 h with h | h
  ·exact .inr h
  ·exact .inl (yO h)
theorem sE {x:Cm} {used:Int->Prop} {c s:Nat} {q:Int} {a:As} {d:Bool} {o z:Int} (hx:lh x used c) (hc:c < 70000) (hs:s < x.AR.length) (hE:Mt q a d o z) (hq:¬used q) (hb:xe (C7 x s) o) (hsl:(C7 x s).length<=c):
 kF x (q,a,d,(s:Int),o,z)/\(fC x (q,a,d,(s:Int),o,z)).AR=x.AR.set s (C7 x s++[(q,a,d,(s:Int),o,z)])/\lh (fC x (q,a,d,(s:Int),o,z)) (fun t=>used t∨t=q) (c+1):=by
 obtain⟨u1,u2⟩:=lH hx a;have o1:o<=1000000:=by have:=hE.oz;have:=hE.z0;omega
 have hok:Lr x q a d s o z:=⟨hE,hs,by have:=hx.kl;omega,by omega,by omega⟩;have hne:∀e∈Mz x a,e.1≠q:=fun e he h=>hq (by rw[<-h];exact u1 e he)
 have hres:El x q a d s o z=0:=by
  unfold El ao;rw[QC _ _ hne,nu hb o1];rfl
 have hb0:(El x q a d s o z==0)=true:=by rw[hres];rfl
 have hX:fC x (q,a,d,(s:Int),o,z)=⟨Lq x q a d s o z,x.AR.set s (HF (C7 x s) (J7 (C7 x s) o) (q,a,d,(s:Int),o,z))⟩:=by
  show JO x q a d (Int.toNat (s:Int)) o z=_;rw[MG];unfold JO;rw[hb0,C8]
 refine⟨⟨⟨by rw[MG],by rw[MG];exact hok⟩,by rw[MG];exact hres⟩,?_,?_⟩
 ·rw[hX];show x.AR.set s _=_;rw[ab hb];unfold HF;rw[qs,ABS]
 ·rw[hX];cases hh:Ie x a
  ·have hk:Lq x q a d s o z=x.keys.take (Ey x a)++((a,[(q,a,d,(s:Int),o,z)])::x.keys.drop (Ey x a)):=by unfold Lq;rw[hh];rfl
   refine⟨fun p hp e he=>?_,?_,fun p hp=>?_⟩
   ·rw[hk]at hp;rcases List.mem_append.1 hp with hp | hp
    ·exact .inl (hx.key p (AAa hp) e he)
    ·rcases List.mem_cons.1 hp with hp | hp
     ·subst hp;rw[Q4]at he;rw[he];exact .inr rfl
     ·exact .inl (hx.key p (yO hp) e he)
   ·show(Lq x q a d s o z).length<=_;have:=hx.kl;rw[hk,Pq,Rg,bT,Tx];omega
   ·rw[hk]at hp;rcases List.mem_append.1 hp with hp | hp
    ·have:=hx.ll p (AAa hp);omega
    ·rcases List.mem_cons.1 hp with hp | hp
     ·subst hp;show 1<=c+1;omega
     ·have:=hx.ll p (yO hp);omega
  ·have hk:Lq x q a d s o z=x.keys.set (Ey x a) ((x.keys.getD (Ey x a) (a,[])).1,HF (Mz x a) (PH (Mz x a).length (E5 (Mz x a) q s)) (q,a,d,(s:Int),o,z)):=by unfold Lq;rw[hh];rfl
   refine⟨fun p hp e he=>?_,?_,fun p hp=>?_⟩
   ·rw[hk]at hp;rcases yk hp with hp | hp
    ·exact .inl (hx.key p hp e he)
    ·subst hp;rcases jj he with he | he
     ·exact .inl (u1 e he)
     ·rw[he];exact .inr rfl
   ·show(Lq x q a d s o z).length<=_;have:=hx.kl;rw[hk,SB];omega
   ·rw[hk]at hp;rcases yk hp with hp | hp
    ·have:=hx.ll p hp;omega
    ·subst hp;show(HF _ _ _).length<=_;rw[NP aj];omega
theorem mW {r:C2} (h:r.ok):I1 r.a=0:=by
 unfold C2.ok DR at h;simp only[Dg,ABW]at h;exact h.1.2
theorem dA {r:C2} (h:r.ok) {off:Nat} (hb:off+r.size<=8192):Mt r.q r.a ((r.k:Int)==2) off r.size:=by
 have hF:=JH h;have b1:=hF.b1;have a1:=hF.a1;have hsz:r.size=16+r.a.size+r.b.size:=rfl;refine⟨mW h,hF.q0,hF.q1,uf _,by omega,?_,by omega,by omega⟩;rcases hF.hk with hk | ⟨hk,hb0⟩
 ·right;rw[hk];rfl
 ·left;omega
theorem fA {x:Cm} {s:Nat} (hs:s < x.AR.length) (l:Aw) (_K:List (As × Aw)) (y:Cm) (hy:y.AR=x.AR.set s l):C7 y s=l:=by
 unfold C7;rw[hy];exact Dp hs
def GR {α:Type} (L:Nat->α) (s:Nat) (x:α):Nat->α:=fun i=>bif Nat.beq i s then x else L i
theorem Mw {α:Type} (L:Nat->α) (s:Nat) (x:α):GR L s x s=x:=by unfold GR;rw[VX];rfl
theorem PX {α:Type} (L:Nat->α) {s t:Nat} (x:α) (h:t≠s):GR L s x t=L t:=by
 unfold GR;cases hb:Nat.beq t s
 ·rfl
 ·exact absurd (DN hb) h
theorem LM {d:Ab} {g:AS->AS} {s:Nat} {P:Option BP} {S O:Int} {D:Bool} (hs:s < d.BB.length) (t:Nat):CV ⟨D6 g (s:Nat) d.BB,P,S,O,D⟩ (t:Nat)=if s=t then g (CV d (s:Nat))else CV d (t:Nat):=by
 unfold CV D6;simp only[MG];rw[Kd,Q6,MB hs];split
 ·rfl
 ·rw[<-Kd]
theorem RR (s:Int) (r:C2):∀(rs:List C2) (off:Nat),D4 s off (rs++[r])=D4 s off rs++[Ou s (off+(B3 rs).length) r]
 | [],off=>rfl
 | r0::rs,off=>by
  have hB:B3 (r0::rs)=r0.bytes++B3 rs:=rfl;show Ou s off r0::D4 s (off+r0.size) (rs++[r])=Ou s off r0::(D4 s (off+r0.size) rs++[_]);rw[RR s r rs,hB,Pq,r0.len,jV]
theorem H6 (s:Int):∀(rs:List C2) (off:Nat),(D4 s off rs).length=rs.length
 | [],_=>rfl
 | r::rs,off=>by show(D4 s (off+r.size) rs).length+1=rs.length+1;rw[H6 s rs]
theorem OH (rs:List C2) (r:C2):B3 (rs++[r])=B3 rs++r.bytes:=by
 unfold B3;rw[ABg,ABN,List.flatMap_nil,vf]
theorem P1 {o:Int} (h0:0<=o) (h1:o<=1000000):J3 o=o+1:=wrap64 (by omega) (by omega)
theorem Fe {L:List AS} {i n:Nat} (h:L.length=n) (hi:i < n):Ba L (i:Nat)=false:=by
 unfold Ba;rw[MC (by omega),MC (by omega)];rfl
theorem Nt (d:Ab) (i:Int):Ed d i 0 (A8 d i)=(CV d i).b:=by
 unfold Ed Us A8;rw[MG];show List.take _ (List.drop 0 _)=_;rw[bl,qs]
theorem Rv {d:Ab} {i:Nat} (hd:d.down=false) (hb:Ba d.BB (i:Nat)=false):Kj d (i:Nat) 0 (A8 d (i:Nat))=true:=by
 unfold Kj;rw[hd,hb];unfold Ij A8;rw[MC (by omega),MC (by omega),MC (by omega),MC (by omega)];rfl
theorem VJ {d:Ab} {s n:Nat} {l:Ad} (hd:d.down=false) (hp:d.BJ=none) (hl:d.BB.length=n) (hs:s < n) (hr:(l.length:Int)<=Gw d (s:Nat)):DX d (s:Nat) l=(0,⟨D6 (fun m=>FP m l) (s:Nat) d.BB,none,d.AR,J3 d.ops,false⟩):=by
 rw[NX hd (Fe hl hs) (by omega)];unfold MZ;rw[hp,hd]
theorem bB {d:Ab} {s n:Nat} (hd:d.down=false) (hp:d.BJ=none) (hl:d.BB.length=n) (hs:s < n):De d (s:Nat)=(0,⟨D6 Cn (s:Nat) d.BB,none,d.AR,J3 d.ops,false⟩):=by
 unfold De;rw[NK hd (Fe hl hs)];unfold MZ;rw[hp,hd]
def ib (rs:List C2):Int:=rs.foldl (fun a r=>Ux a (r.q:Int)) 0
theorem PM (s:Int):∀(rs:List C2) (off:Nat) (a:Int),(D4 s off rs).foldl (fun a e=>Ux a e.1) a=rs.foldl (fun a r=>Ux a (r.q:Int)) a
 | [],_,_=>rfl
 | r::rs,off,a=>PM s rs (off+r.size) (Ux a (r.q:Int))
theorem YF:∀(rs:List C2) (a m:Int),a<=m->(∀r∈rs,(r.q:Int)<=m)->rs.foldl (fun a r=>Ux a (r.q:Int)) a<=m/\a<=rs.foldl (fun a r=>Ux a (r.q:Int)) a
 | [],a,m,h,_=>⟨h,AAm _⟩
 | r::rs,a,m,h,hr=>by
  have h1:Ux a (r.q:Int)<=m/\a<=Ux a (r.q:Int):=by
   have:=hr r (nB ..);unfold Ux;split<;>omega
  obtain⟨k1,k2⟩:=YF rs (Ux a (r.q:Int)) m h1.1 fun x hx=>hr x (oo _ hx)
  exact⟨k1,Int.le_trans h1.2 k2⟩
theorem qB {r:C2} {rs:List C2} {m:Int} (h0:1<=(r.q:Int)) (hr:∀x∈r::rs,(x.q:Int)<=m) (hm:0<=m):1<=ib (r::rs):=by
 have h1:1<=Ux 0 (r.q:Int):=by unfold Ux;split<;>omega
 have h2:Ux 0 (r.q:Int)<=m:=by
  have:=hr r (nB ..);unfold Ux;split<;>omega
 have:=(YF rs (Ux 0 (r.q:Int)) m h2 fun x hx=>hr x (oo _ hx)).2;exact Int.le_trans h1 this
def Yz (rs:List C2):Ad:=vQ (rs.length:Nat) (ib rs)
theorem jS (s:Int) (rs:List C2):wC (D4 s 0 rs)=Yz rs:=by
 unfold wC Yz O9 ib;rw[H6,PM]
theorem bR (rs:List C2):(Yz rs).length=16:=Te ..
def bX (s:Nat) (rs:List C2):Ad:=bif s==2 then B3 rs++Yz rs else B3 rs
def iL (s:Nat) (rs:List C2) (u:Nat):Nat:=bif s==2 then(bX 2 rs).length else(B3 (rs.take u)).length
structure PInv (n z:Nat) (r:Int) (k o:Nat) (p:IQ) (rs:Nat->List C2) (us:Nat->Nat):Prop where
 sl:p.d.AR=n
 dn:p.d.down=false
 pl:p.d.BJ=none
 len:p.d.BB.length=n+2
 o0:0<=p.d.ops
 o1:p.d.ops<=o
 n1:1<=p.nx
 n2:p.nx<=k+1
 tok:I6 p.t
 tl:p.t.st.length=n
 tr:p.t.res=r
 ts:∀s:Nat,s < n->BG p.t (s:Nat)<=2
 ta:∀s s':Nat,s < n->s' < n->BG p.t (s:Nat)=1->BG p.t (s':Nat)=1->s=s'
 im:∀s:Nat,s < n->CV p.d (s:Nat)=⟨z,(iL (BG p.t (s:Nat)) (rs s) (us s):Nat),bX (BG p.t (s:Nat)) (rs s)⟩
 e0:∀s:Nat,s < n->BG p.t (s:Nat)=0->rs s=[]
 u:∀s:Nat,s < n->us s<=(rs s).length
 sz:∀s:Nat,s < n->(B3 (rs s)).length+16<=z
 xl:p.x.AR.length=n
 xs:∀s:Nat,s < n->C7 p.x s=D4 (s:Nat) 0 (rs s)
 xi:lh p.x (fun q=>1<=q/\q < p.nx) k
 ok:∀s:Nat,s < n->∀x∈rs s,x.ok
 q:∀s:Nat,s < n->∀x∈rs s,(x.q:Int) < p.nx
 qk:∀s:Nat,s < n->(rs s).length<=k
theorem Mc {t:xB} {i j b:Nat} (hi:i < t.st.length):BG (A6 t (i:Nat) b) (j:Nat)=if i=j then b else BG t (j:Nat):=by
 unfold BG A6;simp only[MG];rw[Kd,Q6];split
 ·rename_i e;subst e;simp
 ·rw[<-Kd]
section
variable {n z k o:Nat} {r:Int} {p:IQ} {rs:Nat->List C2} {us:Nat->Nat}
theorem PInv.mono {o':Nat} (h:PInv n z r k o p rs us) (ho:o<=o'):PInv n z r k o' p rs us:={ h with o1:=by have:=h.o1;omega }
theorem PInv.next (h:PInv n z r k o p rs us):PInv n z r (k+1) o p rs us:=
 { h with n2:=by have:=h.n2;omega,xi:=⟨h.xi.key,by have:=h.xi.kl;omega,fun q hq=>by have:=h.xi.ll q hq;omega⟩,qk:=fun s hs=>by have:=h.qk s hs;omega }
theorem ZH {s:Nat}:∀(l:List C2) (off:Nat),xe (D4 (s:Nat) off l) ((off+(B3 l).length:Nat):Int)
 | [],off=>⟨fun e he=>(by cases he)⟩
 | x::l,off=>⟨fun e he=>by
  have hB:B3 (x::l)=x.bytes++B3 l:=rfl;have h16:=x.Xo;rw[hB,Pq,x.len];rcases List.mem_cons.1 he with he | he
  ·rw[he];exact⟨uf _,by show(1:Int)<=(x.size:Int);omega,by show(off:Int)+(x.size:Int)<=_;omega⟩
  ·obtain⟨q1,q2,q3⟩:=(ZH l (off+x.size)).all e he;exact⟨q1,q2,by omega⟩⟩
theorem PInv.put (h:PInv n z r k o p rs us) {s:Nat} (hs:s < n) (hst:BG p.t (s:Nat)=1) {kd:Nat} {ky vl:As} (hr:DR kd p.nx ky vl=true) (hz:(B3 (rs s)).length+Bu ky vl+16<=z) (hk:k < 1000) (ho:o < 100000) (hn:n<=9) (hz2:z<=8192):
 zX p kd ky vl (s:Nat)/\PInv n z r (k+1) (o+1) (puN p kd ky vl (s:Nat)) (GR rs s (rs s++[⟨kd,p.nx.toNat,ky,vl⟩])) us:=by
 have n1:=h.n1;have n2:=h.n2;have o0:=h.o0;have o1:=h.o1;have hcnt:=h.qk s hs;have hnx:((p.nx.toNat:Nat):Int)=p.nx:=by omega
 generalize hrt:(⟨kd,p.nx.toNat,ky,vl⟩:C2)=rt;have hrk:rt.k=kd:=by rw[<-hrt]
 have hrq:(rt.q:Int)=p.nx:=by rw[<-hrt];exact hnx
 have hra:rt.a=ky:=by rw[<-hrt]
 have hrb:rt.b=vl:=by rw[<-hrt]
 have hrs:rt.size=Bu ky vl:=by unfold C2.size;rw[hra,hrb]
 have hrok:rt.ok:=by unfold C2.ok;rw[hrk,hrq,hra,hrb];exact hr
 have hby:E3 kd p.nx ky vl=rt.bytes:=by unfold C2.bytes;rw[hrk,hrq,hra,hrb]
 have him:=h.im s hs;rw[hst]at him;have hlen:A8 p.d (s:Nat)=((B3 (rs s)).length:Nat):=by unfold A8;rw[him];rfl
 have hroom:Gw p.d (s:Nat)=(z:Int) - ((B3 (rs s)).length:Nat):=by
  have e:Gw p.d (s:Nat)=(CV p.d (s:Nat)).size - (CV p.d (s:Nat)).b.length:=rfl;rw[e,him];rfl
 have hbad:=Fe h.len (show s < n+2 by omega);have hap:=VJ (l:=rt.bytes) h.dn h.pl h.len (show s < n+2 by omega) (by rw[hroom,rt.len,hrs];omega);have hbe:xe (C7 p.x s) ((B3 (rs s)).length:Nat):=by
  rw[h.xs s hs];have:=ZH (s:=s) (rs s) 0;rw[RP]at this;exact this
 have hlx:(C7 p.x s).length<=k:=by rw[h.xs s hs,H6];exact hcnt
 have hE:=dA hrok (off:=(B3 (rs s)).length) (by rw[hrs];omega);rw[hra,hrq,hrk,hrs]at hE;obtain⟨a1,a2,a3⟩:=sE (s:=s) h.xi (by omega) (by rw[h.xl];exact hs) hE (fun hu=>by have:=hu.2;omega) hbe hlx;refine⟨⟨⟨h.dn,hbad⟩,?_,by rw[hby,hap],?_⟩,?_⟩
 ·unfold L6;rw[hr,hlen,MC (by omega),MC (by omega),MC (by omega),MC (by omega)];rfl
 ·rw[hlen];exact a1
 have hX:JO p.x p.nx ky ((kd:Int)==2) (Int.toNat (s:Nat)) (A8 p.d (s:Nat)) (Bu ky vl:Nat)=fC p.x (p.nx,ky,(kd:Int)==2,((s:Nat):Int),((B3 (rs s)).length:Nat),((Bu ky vl:Nat):Int)):=by rw[hlen];rfl
 have hw:IntKind.wrap .i64 (p.nx+1)=p.nx+1:=wrap64 (by omega) (by omega);have hP:puN p kd ky vl (s:Nat)=⟨⟨D6 (fun m=>FP m rt.bytes) (s:Nat) p.d.BB,none,p.d.AR,J3 p.d.ops,false⟩,p.t,fC p.x (p.nx,ky,(kd:Int)==2,((s:Nat):Int),((B3 (rs s)).length:Nat),((Bu ky vl:Nat):Int)),p.nx+1⟩:=by
  unfold puN;rw[hX,hby,hap,hw]
 have hA:∀t:Nat,t≠s->GR rs s (rs s++[rt]) t=rs t:=fun t ht=>PX _ _ ht
 have hB:=Mw rs s (rs s++[rt]);have hdw:=P1 o0 (by omega);have hget:∀t:Nat,CV ⟨D6 (fun m=>FP m rt.bytes) (s:Nat) p.d.BB,none,p.d.AR,J3 p.d.ops,false⟩ (t:Nat)=if s=t then FP (CV p.d (s:Nat)) rt.bytes else CV p.d (t:Nat):=fun t=>LM (by rw[h.len];omega) t
 rw[hP];refine⟨h.sl,rfl,rfl,(Gl (fun m=>FP m rt.bytes) ((s:Nat):Int) p.d.BB).trans h.len,by show 0<=J3 _;omega,by show J3 _<=_;omega,by show 1<=p.nx+1;omega,by show p.nx+1<=_;omega,h.tok,h.tl,h.tr,h.ts,h.ta,fun t ht=>?_,fun t ht h0=>?_,fun t ht=>?_,fun t ht=>?_,?_,fun t ht=>?_,?_,fun t ht=>?_,fun t ht=>?_,fun t ht=>?_⟩
 ·show CV ⟨D6 _ _ _,_,_,_,_⟩ _=_;rw[hget]
  by_cases e:s=t
  ·subst e;rw[MB rfl,hB,him,hst];have hu:=h.u s hs;show(⟨z,_,B3 (rs s)++rt.bytes⟩:AS)=⟨z,((B3 ((rs s++[rt]).take (us s))).length:Nat),B3 (rs s++[rt])⟩;rw[Zq hu,OH];rfl
  ·rw[JT e,hA t (gi e)];exact h.im t ht
 ·have e:t≠s:=by
   rintro rfl;have h0:BG p.t (t:Nat)=0:=h0;omega
  rw[hA t e];exact h.e0 t ht h0
 ·by_cases e:t=s
  ·subst e;rw[hB,Pq];have:=h.u t ht;omega
  ·rw[hA t e];exact h.u t ht
 ·by_cases e:t=s
  ·subst e;rw[hB,OH,Pq,rt.len,hrs];omega
  ·rw[hA t e];exact h.sz t ht
 ·show(fC _ _).AR.length=n;rw[a2,SB];exact h.xl
 ·show C7 (fC _ _) t=_
  by_cases e:t=s
  ·subst e;rw[fA (by rw[h.xl];exact ht) _ [] _ a2,hB,RR,h.xs t ht,RP];unfold Ou;rw[hra,hrq,hrk,hrs]
  ·rw[hA t e];unfold C7;rw[a2,Kd,Q6,JT (gi e),<-Kd];exact h.xs t ht
 ·refine⟨fun q hq e he=>?_,?_,fun q hq=>?_⟩
  ·show 1<=e.1/\e.1 < p.nx+1;rcases a3.key q hq e he with h3 | h3<;>omega
  ·exact a3.kl
  ·exact a3.ll q hq
 ·by_cases e:t=s
  ·subst e;rw[hB];intro x hx;rcases List.mem_append.1 hx with hx | hx
   ·exact h.ok t ht x hx
   ·rw[Q4]at hx;rw[hx];exact hrok
  ·rw[hA t e];exact h.ok t ht
 ·by_cases e:t=s
  ·subst e;rw[hB];intro x hx;show(x.q:Int) < p.nx+1;rcases List.mem_append.1 hx with hx | hx
   ·have:=h.q t ht x hx;omega
   ·rw[Q4]at hx;rw[hx];omega
  ·rw[hA t e];intro x hx;show(x.q:Int) < p.nx+1;have:=h.q t ht x hx;omega
 ·by_cases e:t=s
  ·subst e;rw[hB,Pq];show _+1<=_;omega
  ·rw[hA t e];have:=h.qk t ht;omega
end
section
variable {n z k o:Nat} {r:Int} {p:IQ} {rs:Nat->List C2} {us:Nat->Nat}
theorem PInv.fi (h:PInv n z r k o p rs us) {q:Nat} (hq:IT p.t q=true):Ly p.t.st q < n/\BG p.t ((Ly p.t.st q:Nat):Int)=q:=by
 obtain⟨_,_,a2,a3⟩:=WL h.tok hq;refine⟨?_,a3⟩;rw[h.tl]at a2;unfold Bo at a2;omega
theorem rB (h:PInv n z r k o p rs us) (hk:k < 1000) {s:Nat} (hs:s < n):∀x∈rs s,(x.q:Int)<=1099511627776:=fun x hx=>by
 have:=h.q s hs x hx;have:=h.n2;omega
theorem z7 (h:PInv n z r k o p rs us) (hk:k < 1000) {s:Nat} (hs:s < n) (hne:rs s≠[]):nj ((rs s).length:Nat) (ib (rs s)):=by
 have hc:=h.qk s hs;have hb:=rB h hk hs;cases hr:rs s with
 | nil=>exact absurd hr hne
 | cons x l=>
  rw[hr]at hc hb;have hx:=(JH (h.ok s hs x (by rw[hr];exact nB ..))).q0;have h1:=qB hx hb (by decide);have h2:=(YF (x::l) 0 1099511627776 (by decide) hb).1;refine⟨by omega,by omega,by omega,h2,fun e=>?_,fun e=>?_⟩
  ·rw[bT]at e;omega
  ·omega
theorem PInv.close (h:PInv n z r k o p rs us) (ha:IT p.t 1=true) (hne:rs (Ly p.t.st 1)≠[]) (hk:k < 900) (ho:o < 100000) (hn:n<=9):yG p/\PInv n z r k (o+2) (eK p) rs (fun s=>us s)/\IT (eK p).t 1=false/\(eK p).nx=p.nx/\JB (eK p).t 0=JB p.t 0:=by
 obtain⟨hs,hst⟩:=h.fi ha;have o0:=h.o0;have o1:=h.o1;generalize hsd:Ly p.t.st 1=s at hs hst hne;have hfi:Bo p.t 1=(s:Nat):=by unfold Bo;rw[hsd]
 have him:=h.im s hs;rw[hst]at him;have hxs:=h.xs s hs;have hroom:Gw p.d (s:Nat)=(z:Int) - ((B3 (rs s)).length:Nat):=by
  have e:Gw p.d (s:Nat)=(CV p.d (s:Nat)).size - (CV p.d (s:Nat)).b.length:=rfl;rw[e,him];rfl
 have hsz:=h.sz s hs;have hcnt:=h.qk s hs;have hcl:wC (C7 p.x s)=Yz (rs s):=by rw[hxs,jS]
 have hap:=VJ (l:=Yz (rs s)) h.dn h.pl h.len (show s < n+2 by omega) (by rw[hroom,bR];omega);have hd1:(D6 (fun m=>FP m (Yz (rs s))) (s:Nat) p.d.BB).length=n+2:=(Gl (fun m=>FP m (Yz (rs s))) ((s:Nat):Int) p.d.BB).trans h.len;have hsy:=bB (d:=⟨D6 (fun m=>FP m (Yz (rs s))) (s:Nat) p.d.BB,none,p.d.AR,J3 p.d.ops,false⟩) rfl rfl hd1 (show s < n+2 by omega);have hdw:=P1 o0 (by omega);have hdw2:J3 (J3 p.d.ops)=p.d.ops+2:=by rw[hdw,P1 (by omega) (by omega)];omega
 have hsl:qj p.t (s:Nat):=⟨by omega,by rw[h.tl];omega,.inl hst⟩;have hlen:(C7 p.x s).length<=900:=by rw[hxs,H6];omega
 have hft:=z7 h (by omega) hs hne;have hD:uN p.d (s:Nat) (C7 p.x s)=⟨D6 Cn (s:Nat) (D6 (fun m=>FP m (Yz (rs s))) (s:Nat) p.d.BB),none,p.d.AR,J3 (J3 p.d.ops),false⟩:=by
  unfold uN;rw[hcl,hap,hsy]
 have hN:eK p=⟨⟨D6 Cn (s:Nat) (D6 (fun m=>FP m (Yz (rs s))) (s:Nat) p.d.BB),none,p.d.AR,J3 (J3 p.d.ops),false⟩,A6 p.t (s:Nat) 2,p.x,p.nx⟩:=by
  unfold eK;rw[hfi,MG,hD]
 have hset:∀t:Nat,BG (A6 p.t (s:Nat) 2) (t:Nat)=if s=t then 2 else BG p.t (t:Nat):=fun t=>Mc (by rw[h.tl];exact hs)
 obtain⟨t1,_,_⟩:=OQ h.tok (a:=1) (b:=2) (by decide) (by decide) (show(0:Int)<=(s:Nat) by omega) (by rw[h.tl];omega) hst;have hlt:(A6 p.t (s:Nat) 2).st.length=n:=WN.trans h.tl;have hget:∀t:Nat,CV ⟨D6 Cn (s:Nat) (D6 (fun m=>FP m (Yz (rs s))) (s:Nat) p.d.BB),none,p.d.AR,J3 (J3 p.d.ops),false⟩ (t:Nat)=if s=t then Cn (FP (CV p.d (s:Nat)) (Yz (rs s)))else CV p.d (t:Nat):=fun t=>by
  have e1:=LM (d:=⟨D6 (fun m=>FP m (Yz (rs s))) (s:Nat) p.d.BB,none,p.d.AR,J3 p.d.ops,false⟩) (g:=Cn) (s:=s) (P:=none) (S:=p.d.AR) (O:=J3 (J3 p.d.ops)) (D:=false) (Nat.lt_of_lt_of_eq (show s < n+2 by omega) hd1.symm) t;have e2:=fun t=>LM (d:=p.d) (g:=fun m=>FP m (Yz (rs s))) (s:=s) (P:=none) (S:=p.d.AR) (O:=J3 p.d.ops) (D:=false) (by rw[h.len];omega) t
  rw[e1,e2,e2,MB rfl];split<;>rfl
 refine⟨⟨by rw[hfi];rfl,?_,?_⟩,?_,?_,?_,?_⟩
 ·rw[hfi,MG];exact⟨by rw[h.xl];exact hs,by rw[h.xl];omega,hlen⟩
 ·rw[hfi,MG];refine⟨?_,by rw[hcl,hap],by rw[hcl,hap,hsy],hsl,hlen⟩;rw[hxs,H6];have:O9 (D4 (s:Nat) 0 (rs s))=ib (rs s):=PM _ _ _ _;rw[this];exact hft
 ·rw[hN];refine⟨h.sl,rfl,rfl,(Gl Cn ((s:Nat):Int) _).trans hd1,by show 0<=J3 (J3 _);omega,by show J3 (J3 _)<=_;omega,h.n1,h.n2,t1,hlt,h.tr,fun t ht=>?_,fun t t' ht ht' h1 h2=>?_,fun t ht=>?_,fun t ht h0=>?_,h.u,h.sz,h.xl,h.xs,h.xi,h.ok,h.q,h.qk⟩
  ·show BG (A6 p.t (s:Nat) 2) (t:Nat)<=2;rw[hset];split
   ·exact GO _
   ·exact h.ts t ht
  ·have h1:BG (A6 p.t (s:Nat) 2) (t:Nat)=1:=h1;have h2:BG (A6 p.t (s:Nat) 2) (t':Nat)=1:=h2;rw[hset]at h1 h2
   by_cases e1:s=t
   ·rw[MB e1]at h1;cases h1
   ·by_cases e2:s=t'
    ·rw[MB e2]at h2;cases h2
    ·rw[JT e1]at h1;rw[JT e2]at h2;exact h.ta t t' ht ht' h1 h2
  ·show CV ⟨D6 Cn _ _,_,_,_,_⟩ _=⟨(z:Int),(iL (BG (A6 p.t (s:Nat) 2) (t:Nat)) (rs t) (us t):Nat),bX (BG (A6 p.t (s:Nat) 2) (t:Nat)) (rs t)⟩;rw[hget,hset]
   by_cases e:s=t
   ·subst e;rw[MB rfl,MB rfl,him];rfl
   ·rw[JT e,JT e];exact h.im t ht
  ·have h0:BG (A6 p.t (s:Nat) 2) (t:Nat)=0:=h0;rw[hset]at h0
   by_cases e:s=t
   ·rw[MB e]at h0;cases h0
   ·rw[JT e]at h0;exact h.e0 t ht h0
 ·rw[hN];show IT (A6 p.t (s:Nat) 2) 1=false;cases hb:IT (A6 p.t (s:Nat) 2) 1
  ·rfl
  ·obtain⟨_,b1,b2,b3⟩:=WL t1 hb;rw[hlt]at b2;obtain⟨j,hj⟩:=jc b1;rw[hj]at b2 b3;have b3:BG (A6 p.t (s:Nat) 2) (j:Nat)=1:=b3;rw[hset]at b3
   by_cases e:s=j
   ·rw[MB e]at b3;cases b3
   ·rw[JT e]at b3;exact absurd (h.ta s j hs (by omega) hst b3) e
 ·rw[hN]
 ·rw[hN];show JB (A6 p.t (s:Nat) 2) 0=JB p.t 0;have c0:=Vj (t:=p.t) (k:=0) (s:=2) (show(0:Int)<=(s:Nat) by omega) (by rw[h.tl];omega) (by rw[hst];decide) (by decide);rw[<-O8 t1 0,<-O8 h.tok 0,c0]
end
section
variable {n z k o:Nat} {r:Int} {p:IQ} {rs:Nat->List C2} {us:Nat->Nat}
theorem gV (h1:IT p.t 1=false) (hb:JB p.t 0<=p.t.res):(LW p.t).2=11/\(LW p.t).1=0/\Ob p=p:=by
 have e:LW p.t=(0,11):=by unfold LW;rw[h1,KE hb];rfl
 have e2:Mh p.t=p.t:=by unfold Mh;rw[h1,KE hb];rfl
 refine⟨by rw[e],by rw[e],?_⟩;unfold Ob;rw[e2]
theorem PInv.take (h:PInv n z r k o p rs us) (h1:IT p.t 1=false) (hb:¬JB p.t 0<=p.t.res):∃s:Nat,s < n/\(LW p.t).1=(s:Nat)/\(LW p.t).2=0/\rs s=[]/\PInv n z r k o (Ob p) rs us/\BG (Ob p).t (s:Nat)=1/\BG p.t (s:Nat)=0/\Ob p=⟨p.d,A6 p.t (s:Nat) 1,p.x,p.nx⟩:=by
 have h0:IT p.t 0=true:=by rw[Oo];exact KE (by have:=h.tok.r0;omega)
 obtain⟨hs,hst⟩:=h.fi h0;have e:LW p.t=(Bo p.t 0,0):=by unfold LW;rw[h1,MC hb];rfl
 have e2:Mh p.t=A6 p.t (Bo p.t 0) 1:=by unfold Mh;rw[h1,MC hb];rfl
 generalize hsd:Ly p.t.st 0=s at hs hst;have hfi:Bo p.t 0=(s:Nat):=by unfold Bo;rw[hsd]
 rw[hfi]at e e2;have hN:Ob p=⟨p.d,A6 p.t (s:Nat) 1,p.x,p.nx⟩:=by unfold Ob;rw[e2]
 have hset:∀t:Nat,BG (A6 p.t (s:Nat) 1) (t:Nat)=if s=t then 1 else BG p.t (t:Nat):=fun t=>Mc (by rw[h.tl];exact hs)
 obtain⟨t1,_,_⟩:=OQ h.tok (a:=0) (b:=1) (by decide) (by decide) (show(0:Int)<=(s:Nat) by omega) (by rw[h.tl];omega) hst;have hlt:(A6 p.t (s:Nat) 1).st.length=n:=WN.trans h.tl;have hno:∀t:Nat,t < n->BG p.t (t:Nat)≠1:=fun t ht hc=>by
  have hm:1∈p.t.st:=by
   unfold BG at hc;rw[MG,Kd,Jj (by rw[h.tl];exact ht)]at hc;exact hc ▸ AAX _
  have:IT p.t 1=true:=KE hm;rw[h1]at this;cases this
 have hrs:=h.e0 s hs hst;have him:=h.im s hs;rw[hst,hrs]at him;refine⟨s,hs,by rw[e],by rw[e],hrs,?_,?_,hst,hN⟩
 ·rw[hN];refine⟨h.sl,h.dn,h.pl,h.len,h.o0,h.o1,h.n1,h.n2,t1,hlt,h.tr,fun t ht=>?_,fun t t' ht ht' g1 g2=>?_,fun t ht=>?_,fun t ht g0=>?_,h.u,h.sz,h.xl,h.xs,h.xi,h.ok,h.q,h.qk⟩
  ·show BG (A6 p.t (s:Nat) 1) (t:Nat)<=2;rw[hset];split
   ·decide
   ·exact h.ts t ht
  ·have g1:BG (A6 p.t (s:Nat) 1) (t:Nat)=1:=g1;have g2:BG (A6 p.t (s:Nat) 1) (t':Nat)=1:=g2;rw[hset]at g1 g2
   by_cases e1:s=t
   ·by_cases e2:s=t'
    ·omega
    ·rw[JT e2]at g2;exact absurd g2 (hno t' ht')
   ·rw[JT e1]at g1;exact absurd g1 (hno t ht)
  ·show CV p.d (t:Nat)=⟨(z:Int),(iL (BG (A6 p.t (s:Nat) 1) (t:Nat)) (rs t) (us t):Nat),bX (BG (A6 p.t (s:Nat) 1) (t:Nat)) (rs t)⟩;rw[hset]
   by_cases e1:s=t
   ·subst e1;rw[MB rfl,hrs,him];rfl
   ·rw[JT e1];exact h.im t ht
  ·have g0:BG (A6 p.t (s:Nat) 1) (t:Nat)=0:=g0;rw[hset]at g0
   by_cases e1:s=t
   ·rw[MB e1]at g0;cases g0
   ·rw[JT e1]at g0;exact h.e0 t ht g0
 ·rw[hN];show BG (A6 p.t (s:Nat) 1) (s:Nat)=1;rw[hset,MB rfl]
def oG (n:Nat) (p:IQ) (rs:Nat->List C2):Prop:=∀s:Nat,s < n->BG p.t (s:Nat)≠0->rs s≠[]
structure jy (c:GP) (n z:Nat) (r:Int):Prop where
 cn:c.n=n
 cz:c.z=z
 cr:c.r=r
 n4:4<=n
 n9:n<=9
 r2:2<=r
 rn:r+2<=n
 z1:34<=z
 z2:z<=316
 v0:0<=c.v
 v1:c.v<=23
 zv:34+c.v<=z
theorem mg (b:Int):I1 (F0 b)=0/\1<=(F0 b).size/\(F0 b).size<=2:=by
 unfold F0;split
 ·exact⟨by kernel_rfl,by decide,by decide⟩
 ·split
  ·exact⟨by kernel_rfl,by decide,by decide⟩
  ·split
   ·exact⟨by kernel_rfl,by decide,by decide⟩
   ·split
    ·exact⟨by kernel_rfl,by decide,by decide⟩
    ·split
     ·exact⟨by kernel_rfl,by decide,by decide⟩
     ·exact⟨by kernel_rfl,by decide,by decide⟩
theorem cE (x:UInt8):∀n:Nat,(Go.Lib.repeatL [x] n).length=n
 | 0=>rfl
 | n+1=>by
  show([x]++Go.Lib.repeatL [x] n).length=n+1;rw[Pq,cE x n];show 1+n=n+1;omega
theorem jZ {a b g v:Int} (h:Va a b g v):((V1 a b g v).size:Int)<=v:=by
 have v0:=h.v0;obtain⟨l0,l1⟩:=jm h;unfold V1;cases a % 8==5
 ·rw[EB];show(((Zp b g v).data.size:Nat):Int)<=v;unfold Zp;simp only[AAt];have:(Array.toList (ByteArray.data (tZ b)))=[UInt8.ofNat (Int.toNat (IntKind.wrap .u8 (65+Int.tmod b 26)))]:=rfl;rw[this,cE];omega
 ·rw[C8];show(0:Int)<=v;exact v0
theorem y8 {c:GP} {e f g:Int} (hm:Va e f g c.v) (hv:c.v<=23) (n1:1<=p.nx) (n2:p.nx<=1000000):yK c p e f g/\((TW c e f g:Nat):Int)<=18+c.v:=by
 obtain⟨k1,k2,k3⟩:=mg f;have hs:=jZ hm;refine⟨⟨hm,?_⟩,?_⟩
 ·have e1:(((iJ e:Nat):Int)==1||(((iJ e:Nat):Int)==2&&Jf (V1 e f g c.v)))=true:=by
   unfold iJ V1;cases e % 8==5
   ·rfl
   ·unfold Jf;show(false||(true&&(ByteArray.toList { data:=#[] }==ByteArray.toList { data:=#[] })))=true;rw[AAS];rfl
  have e2:J6 (V1 e f g c.v) 512=0:=by
   unfold J6;rw[MC (by decide),MC (by decide),MC (by show ¬((V1 e f g c.v).size:Int) > 512;omega)];rfl
  unfold DR;rw[e1,k1,e2,MC (by omega),MC (by omega)];rfl
 ·unfold TW Bu;omega
theorem PInv.step (h:PInv n z r k o p rs us) (hne:oG n p rs) {c:GP} (hc:jy c n z r) {e f g:Int} (hm:Va e f g c.v) (hk:k < 900) (ho:o < 90000):Xk c p e f g/\∃rs',PInv n z r (k+1) (o+3) (qR c p e f g) rs' us/\oG n (qR c p e f g) rs':=by
 obtain⟨cn,cz,cr,n4,n9,r2,rn,z1,z2,v0,v1,zv⟩:=hc;have n1:=h.n1;have n2:=h.n2;obtain⟨hrc,hsz⟩:=y8 (p:=p) hm v1 n1 (by omega);have hres:∀q:IQ,q.t.res=r->(JB q.t 0<=c.r)=(JB q.t 0<=q.t.res):=fun q hq=>by rw[cr,hq]
 have putAll:∀(o1:Nat) (p1:IQ) (rs1:Nat->List C2) (s:Nat),o1<=o+2->p1.nx=p.nx->PInv n z r k o1 p1 rs1 us->(∀t:Nat,t < n->t≠s->BG p1.t (t:Nat)≠0->rs1 t≠[])->s < n->BG p1.t (s:Nat)=1->(B3 (rs1 s)).length+TW c e f g+16<=z->
  xk c e f g p1 (s:Nat)/\∃rs',PInv n z r (k+1) (o+3) (iR c e f g p1 (s:Nat)) rs' us/\oG n (iR c e f g p1 (s:Nat)) rs':=by
  intro o1 p1 rs1 s ho1 hnx h1 hne1 hs hst hz;obtain⟨q1,q2⟩:=h1.put hs hst (kd:=iJ e) (ky:=F0 f) (vl:=V1 e f g c.v) (by rw[hnx];exact hrc.ok) hz (by omega) (by omega) n9 (by omega);refine⟨q1,_,q2.mono (by omega),fun t ht h0=>?_⟩;have h0:BG p1.t (t:Nat)≠0:=h0
  by_cases e1:t=s
  ·subst e1;rw[Mw];simp
  ·rw[PX _ _ e1];exact hne1 t ht e1 h0
 have tkAll:∀(o1:Nat) (p1:IQ),o1<=o+2->p1.nx=p.nx->PInv n z r k o1 p1 rs us->oG n p1 rs->IT p1.t 1=false->y6 c e f g p1/\∃rs',PInv n z r (k+1) (o+3) (QI c e f g p1) rs' us/\oG n (QI c e f g p1) rs':=by
  intro o1 p1 ho1 hnx h1 hne1 hno
  by_cases hb:JB p1.t 0<=p1.t.res
  ·obtain⟨b1,_,b2⟩:=gV hno hb;refine⟨.inr b1,rs,?_⟩;have:QI c e f g p1=p1:=by unfold QI;rw[b1,b2];rfl
   rw[this];exact⟨(h1.mono (by omega)).next,hne1⟩
  ·obtain⟨s,hs,b1,b2,b3,b4,b5,b6,b7⟩:=h1.take hno hb;obtain⟨q1,q2⟩:=putAll o1 (Ob p1) rs s ho1 hnx b4 (fun t ht hts h0=>hne1 t ht (by
    rw[b7]at h0;have h0:BG (A6 p1.t (s:Nat) 1) (t:Nat)≠0:=h0;rw[Mc (by rw[h1.tl];exact hs),JT (gi hts)]at h0;exact h0)) hs b5 (by rw[b3];show 0+_+16<=z;omega)
   refine⟨.inl ⟨b2,by rw[b1];exact q1⟩,?_⟩;have:QI c e f g p1=iR c e f g (Ob p1) (s:Nat):=by unfold QI;rw[b2,b1];rfl
   rw[this];exact q2
 unfold Xk qR;cases h1:IT p.t 1
 ·simp only[EB];cases h2:Int.tmod e 8==6
  ·simp only[EB];obtain⟨q1,q2⟩:=tkAll o p (by omega) rfl h hne h1;exact⟨⟨hrc,q1⟩,q2⟩
  ·simp only[C8];exact⟨trivial,rs,(h.mono (by omega)).next,hne⟩
 ·simp only[C8];obtain⟨hs,hst⟩:=h.fi h1;have hfi:Bo p.t 1=((Ly p.t.st 1:Nat):Int):=rfl;have hnes:=hne _ hs (by rw[hst];decide);obtain⟨c1,c2,c3,c4,c5⟩:=h.close h1 hnes hk (by omega) n9;have hne2:oG n (eK p) rs:=fun t ht h0=>by
   by_cases e1:BG p.t (t:Nat)=0
   ·exfalso;apply h0
    show BG (A6 p.t (Bo p.t 1) 2) (t:Nat)=0;rw[hfi,Mc (by rw[h.tl];exact hs),JT (by rintro rfl;rw[hst]at e1;cases e1)];exact e1
   ·exact hne t ht e1
  cases h2:Int.tmod e 8==6
  ·simp only[EB];rw[hfi];generalize Ly p.t.st 1=s at hs hst hnes;have him:=h.im s hs;rw[hst]at him;have hroom:Gw p.d (s:Nat)=(z:Int) - ((B3 (rs s)).length:Nat):=by
    have e:Gw p.d (s:Nat)=(CV p.d (s:Nat)).size - (CV p.d (s:Nat)).b.length:=rfl;rw[e,him];rfl
   have hbad:=Fe h.len (show s < n+2 by omega);have hsz2:=h.sz s hs;cases h3:eA p.d (s:Nat) (TW c e f g)
   ·simp only[EB];cases h4:decide (JB p.t 0<=c.r)
    ·simp only[EB];obtain⟨q1,q2⟩:=tkAll (o+2) (eK p) (by omega) c4 c2 hne2 c3;exact⟨⟨hrc,⟨h.dn,hbad⟩,c1,q1⟩,q2⟩
    ·simp only[C8];exact⟨⟨hrc,⟨h.dn,hbad⟩,trivial⟩,rs,(h.mono (by omega)).next,hne⟩
   ·simp only[C8];have hz:(B3 (rs s)).length+TW c e f g+16<=z:=by
     unfold eA at h3;have h3:=rM h3;rw[hroom,wrap64 (by omega) (by omega)]at h3;omega
    obtain⟨q1,q2⟩:=putAll o p rs s (by omega) rfl h (fun t ht _=>hne t ht) hs hst hz;exact⟨⟨hrc,⟨h.dn,hbad⟩,q1⟩,q2⟩
  ·simp only[C8];exact⟨c1,rs,(c2.mono (by omega)).next,hne2⟩
end
section
variable {n z k o:Nat} {r:Int} {p:IQ} {rs:Nat->List C2} {us:Nat->Nat} {c:GP}
theorem ld (hc:jy c n z r):PInv n z r 0 0 (AAI c) (fun _=>[]) (fun _=>0)/\oG n (AAI c) (fun _=>[]):=by
 obtain⟨cn,cz,cr,n4,n9,r2,rn,z1,z2,v0,v1,zv⟩:=hc;have hn:c.n.toNat=n:=by rw[cn];exact MG n
 have hst:∀s:Nat,BG (NN c.n c.r) (s:Nat)=0:=fun s=>by
  unfold BG NN;simp only[MG];rw[Kd,xa];split<;>rfl
 have hsl:∀s:Nat,C7 (aN c.n.toNat) s=[]:=fun s=>by
  unfold C7 aN;rw[Kd,xa];split<;>rfl
 refine⟨⟨cn,rfl,rfl,?_,AAm _,AAm _,AAm _,AAm _,Z5 (by omega) (by omega) (by omega) (by omega),?_,cr,fun s hs=>?_,fun s s' _ _ h1=>?_,fun s hs=>?_,fun _ _ _=>rfl,fun _ _=>GO _,fun s hs=>?_,?_,fun s hs=>?_,⟨fun q hq=>(by cases hq),GO _,fun q hq=>(by cases hq)⟩,fun s hs x hx=>(by cases hx),fun s hs x hx=>(by cases hx),fun s hs=>GO _⟩,fun s hs h0=>?_⟩
 ·show(List.map _ (nf c.n.toNat c.z)).length=_;rw[oB,UR,hn]
 ·show(List.replicate _ _).length=n;rw[YC,hn]
 ·show BG (NN c.n c.r) (s:Nat)<=2;rw[hst];decide
 ·have h1:BG (NN c.n c.r) (s:Nat)=1:=h1;rw[hst]at h1;cases h1
 ·show CV ⟨(nf c.n.toNat c.z).map fun a=>⟨a,0,[]⟩,none,c.n,0,false⟩ (s:Nat)=⟨(z:Int),(iL (BG (NN c.n c.r) (s:Nat)) [] 0:Nat),bX (BG (NN c.n c.r) (s:Nat)) []⟩;rw[hst];unfold CV nf;simp only[MG,ABZ,List.map_replicate];rw[Kd,jY (by rw[YC];omega),xa,MB (by omega),cz];rfl
 ·show 0+16<=z;omega
 ·show(List.replicate _ _).length=n;rw[YC,hn]
 ·show C7 (aN c.n.toNat) s=[];exact hsl s
 ·have h0:BG (NN c.n c.r) (s:Nat)≠0:=h0;exact absurd (hst s) h0
def S7 (l:List PF):Prop:=∀y∈l,(0<=y.1/\0<=y.2.1)/\0<=y.2.2/\y.2.2 < 256
theorem wW {l:List PF} (hl:S7 l) {v:Int} (v0:0<=v) (v1:v<=23) (i:Int):Va (ch l i).1 (ch l i).2.1 (ch l i).2.2 v:=by
 unfold ch;rw[Kd];cases h:l[0+i.toNat]? with
 | none=>exact⟨by decide,by decide,by decide,by decide,v0,by omega⟩
 | some y=>
  obtain⟨⟨a,b⟩,c,d⟩:=hl y (cA h);exact⟨a,b,c,d,v0,by omega⟩
theorem jI (hc:jy c n z r) {l:List PF} (hl:S7 l):∀(j i k o:Nat) (p:IQ) (rs:Nat->List C2),PInv n z r k o p rs us->oG n p rs->k+j<=800->o+3 * j<=80000->
 SD c l j i p/\∃rs',PInv n z r (k+j) (o+3 * j) (VB c l j i p) rs' us/\oG n (VB c l j i p) rs'
 | 0,i,k,o,p,rs,h,hne,_,_=>⟨trivial,rs,h,hne⟩
 | j+1,i,k,o,p,rs,h,hne,hk,ho=>by
  obtain⟨s1,rs1,s2,s3⟩:=h.step hne hc (wW hl hc.v0 hc.v1 (i:Nat)) (by omega) (by omega);obtain⟨q1,rs2,q2,q3⟩:=jI hc hl j (i+1) (k+1) (o+3) _ rs1 s2 s3 (by omega) (by omega);rw[show k+1+j=k+(j+1) by omega,show o+3+3 * j=o+3 * (j+1) by omega]at q2;exact⟨⟨s1,q1⟩,rs2,q2,q3⟩
theorem z8 {a b c d e f g:Int} (h:dw a b c d e f g):∃(n z:Nat) (r:Int),jy (KI a b c d e f g) n z r:=by
 obtain⟨r1,r2,r3,r4,r5,r6,r7,r8,r9,r10,r11⟩:=AAC h;exact⟨(KI a b c d e f g).n.toNat,(KI a b c d e f g).z.toNat,(KI a b c d e f g).r,by omega,by omega,rfl,by omega,by omega,r3,by omega,by omega,by omega,r9,r10,by omega⟩
theorem PInv.more {k' o':Nat} (h:PInv n z r k o p rs us) (hk:k<=k') (ho:o<=o'):PInv n z r k' o' p rs us:=by
 have:∀j,PInv n z r (k+j) o p rs us:=fun j=>by
  induction j with
  | zero=>exact h
  | succ j ih=>exact ih.next
 have h2:=this (k' - k);rw[show k+(k' - k)=k' by omega]at h2;exact h2.mono ho
theorem oV (hc:jy c n z r) {l:List PF} (hl:S7 l) (m:Nat):SD c l (oF m) 0 (AAI c)/\∃rs,PInv n z r 60 180 (xy c l m) rs (fun _=>0)/\oG n (xy c l m) rs:=by
 obtain⟨h1,h2⟩:=ld hc;have hm:=(X5 m).2;obtain⟨q1,rs,q2,q3⟩:=jI hc hl (oF m) 0 0 0 _ _ h1 h2 (by omega) (by omega);exact⟨q1,rs,q2.more (by omega) (by omega),q3⟩
end
section
variable (hW:CY Tryz.prog AI HI uw)
include hW in
theorem ZG {Q:Value->Prop} {R:Bz} {y:BT} {Q':Ih} (hQ:∀v H,Q v->Q' v H) (hR:∀y,R y->AX pR 21 AN Q' y) (h:sg (fun v _=>Q v) R y):AX pR 21 AN Q' y:=by
 unfold sg at h;exact Bq (zQ hW).pf [] [] wyS [] (by kernel_rfl) (show 21<=21 from GO _) (fun v _=>Q v) R (fun v H hq=>hQ v H hq) hR h
variable {n z k o:Nat} {r:Int} {p:IQ} {rs:Nat->List C2} {us:Nat->Nat} {c:GP}
structure mb (n:Nat) (d:Ab) (x:Cm) (bs:Ad) (s:Int):Prop where
 all:∀i:Nat,i < n->(d.down=false/\Ba d.BB (i:Nat)=false)/\FU d (i:Nat)=0
 bd:d.down=false/\Ba d.BB s=false
 rd:Kj d s 0 (A8 d s)=true
 eqb:Ed d s 0 (A8 d s)=bs
 ln:bs.length < 100000
 lx:WO x
include hW in
theorem bD (hcn:c.n=n) (hn:n<=9) {nx:Int} {d:Ab} {t:xB} {x:Cm} {l:List PF} {bs:Ad} {s:Int} (h:mb n d x bs s):∀(j i:Nat),n - i=j->i<=n->AX pR 21 AN (fun v _=>v= .bool true) (nz c nx d t x l bs s (M1 x.AR:Nat) (i:Nat)):=by
 intro j;induction j with
 | zero=>
  intro i hj hi;have e:i=n:=by omega
  subst e;refine ZG hW (Q:=fun v=>v= .bool true) (R:=fun _=>False) (fun v H hq=>hq) (fun y h=>h.elim) ?_;rw[vq];exact AZ (MC (by omega)) ⟨⟨h.bd,h.rd⟩,⟨⟨h.eqb,by rw[h.eqb]⟩,rfl,by rw[h.eqb];exact h.ln⟩,h.lx,AB (AAS _) rfl⟩
 | succ j ih=>
  intro i hj hi;obtain⟨h1,h2⟩:=h.all i (by omega);refine ZG hW (Q:=fun _=>False) (R:=fun y=>y=nz c nx d t x l bs s (M1 x.AR:Nat) ((i+1:Nat):Int)) (fun v H hq=>hq.elim) (fun y hy=>?_) ?_
  ·rw[hy];exact ih (i+1) (by omega) (by omega)
  ·rw[vq];(conv=>zeta)
   have hw:IntKind.wrap .i64 ((i:Int)+1)=((i+1:Nat):Int):=by rw[wrap64 (by omega) (by omega)];rfl
   rw[hw];exact AB (KE (by omega)) ⟨h1,AZ (by rw[h2];rfl) rfl⟩
theorem Sw {B:Nat}:∀(S:List (Aw)),(∀l∈S,l.length<=B)->M1 S<=S.length * B
 | [],_=>ay _
 | l::S,h=>by
  have h1:=h l (nB ..);have h2:=Sw S fun x hx=>h x (oo _ hx)
  show l.length+M1 S<=(S.length+1) * B;rw[sx];omega
theorem PInv.AAE (h:PInv n z r k o p rs us) (hn0:0 < n) (hn:n<=9) (hk:k<=1000):WO p.x:=by
 refine⟨by rw[h.xl];exact hn0,by rw[h.xl];omega,?_⟩;have:=Sw (B:=k) p.x.AR fun l hl=>by
  obtain⟨i,hi,e⟩:=AAU hl;have hin:i < n:=by rw[<-h.xl];exact hi
  have h1:=h.xs i hin;unfold C7 at h1;rw[Kd,Jj hi]at h1;have h1:p.x.AR[i]=_:=h1;rw[<-e,h1,H6];exact h.qk i hin
 rw[h.xl]at this;have h3:n * k<=9 * k:=di k hn;omega
theorem PInv.bad (h:PInv n z r k o p rs us) {s:Nat} (hs:s < n):p.d.down=false/\Ba p.d.BB (s:Nat)=false:=⟨h.dn,Fe h.len (by omega)⟩
theorem PInv.tq (h:PInv n z r k o p rs us) {s:Nat} (hs:s < n):Kj p.d (s:Nat) 0 (A8 p.d (s:Nat))=true:=Rv (h.bad hs).1 (h.bad hs).2
theorem PInv.yJ (h:PInv n z r k o p rs us) {s:Nat} (hs:s < n):(bX (BG p.t (s:Nat)) (rs s)).length<=z:=by
 have:=h.sz s hs;unfold bX;cases (BG p.t (s:Nat)==2)
 ·rw[EB];omega
 ·rw[C8,Pq,bR];omega
theorem PInv.zN (h:PInv n z r k o p rs us) (hn0:0 < n):V4 p.d p.t:=by
 refine⟨by rw[h.sl,h.tl],by rw[h.sl];omega,h.dn,(h.bad hn0).2,fun ha=>?_⟩;exact(h.bad (h.fi ha).1).2
theorem wD {d:Ab} {i:Int} {a b:Nat} {l:Ad} (h:CV d i=⟨(a:Int),(b:Int),l⟩) (hl:l.length<=100000) (hb:b<=l.length):FU d i=((l.length - b:Nat):Int):=by
 unfold FU;rw[h];show IntKind.wrap .i64 ((l.length:Int) - (b:Int))=_;rw[wrap64 (by omega) (by omega)];omega
theorem PInv.yF (h:PInv n z r k o p rs us) (hz:z<=1000) {s:Nat} (hs:s < n):FU p.d (s:Nat)=(((bX (BG p.t (s:Nat)) (rs s)).length - iL (BG p.t (s:Nat)) (rs s) (us s):Nat):Int):=by
 refine wD (h.im s hs) (by have:=h.yJ hs;omega) ?_;unfold iL bX;cases (BG p.t (s:Nat)==2)
 ·simp only[EB];have hp:B3 (rs s)=B3 ((rs s).take (us s))++B3 ((rs s).drop (us s)):=by
   unfold B3;rw[<-ABg,AA6]
  rw[hp,Pq];omega
 ·exact GO _
theorem PInv.zu (h:PInv n z r k o p rs us) (hz:z<=1000) {s:Nat} (hs:s < n) (hst:BG p.t (s:Nat)≠1):FU p.d (s:Nat)=0:=by
 rw[h.yF hz hs];have h2:=h.ts s hs;rcases(show BG p.t (s:Nat)=0∨BG p.t (s:Nat)=2 by omega)with e | e
 ·rw[e,h.e0 s hs e];have h3:iL 0 [] (us s)=0:=by
   unfold iL;show(B3 (List.take _ [])).length=0;rw[ABQ];rfl
  rw[h3];rfl
 ·rw[e];unfold iL;show(((bX 2 (rs s)).length - (bX 2 (rs s)).length:Nat):Int)=0;rw[me];rfl
theorem dt:∀{l:List C2},l≠[]->16<=(B3 l).length
 | [],h=>absurd rfl h
 | x::l,_=>by
  have hB:B3 (x::l)=x.bytes++B3 l:=rfl;have:=x.Xo;rw[hB,Pq,x.len];omega
theorem PInv.sync (h:PInv n z r k o p rs us) {s:Nat} (hs:s < n) (hst:BG p.t (s:Nat)=1) (ho:o < 100000):De p.d (s:Nat)=(0,⟨D6 Cn (s:Nat) p.d.BB,none,p.d.AR,p.d.ops+1,false⟩)/\
 PInv n z r k (o+1) ⟨⟨D6 Cn (s:Nat) p.d.BB,none,p.d.AR,p.d.ops+1,false⟩,p.t,p.x,p.nx⟩ rs (GR us s (rs s).length):=by
 have o0:=h.o0;have o1:=h.o1;have hdw:=P1 o0 (by omega);have e:=bB h.dn h.pl h.len (show s < n+2 by omega);rw[hdw]at e;refine⟨e,⟨h.sl,rfl,rfl,(Gl Cn ((s:Nat):Int) p.d.BB).trans h.len,by show 0<=p.d.ops+1;omega,by show p.d.ops+1<=_;omega,h.n1,h.n2,h.tok,h.tl,h.tr,h.ts,h.ta,fun t ht=>?_,h.e0,fun t ht=>?_,h.sz,h.xl,h.xs,h.xi,h.ok,h.q,h.qk⟩⟩
 ·show CV ⟨D6 Cn _ _,_,_,_,_⟩ _=⟨(z:Int),(iL (BG p.t (t:Nat)) (rs t) (GR us s (rs s).length t):Nat),bX (BG p.t (t:Nat)) (rs t)⟩;rw[LM (by rw[h.len];omega)]
  by_cases e:s=t
  ·subst e;rw[MB rfl,h.im s hs,Mw,hst];show(⟨z,((B3 (rs s)).length:Nat),B3 (rs s)⟩:AS)=⟨z,((B3 ((rs s).take (rs s).length)).length:Nat),B3 (rs s)⟩;rw[qs]
  ·rw[JT e,PX _ _ (gi e)];exact h.im t ht
 ·by_cases e:t=s
  ·subst e;rw[Mw];exact GO _
  ·rw[PX _ _ e];exact h.u t ht
theorem ew {d d1:Ab} {s:Int} (h:(CV d1 s).b=(CV d s).b):Ed d1 s 0 (A8 d1 s)=Ed d s 0 (A8 d s):=by rw[Nt,Nt,h]
include hW in
theorem rS {a b c d e f g:Int} (hs:dw a b c d e f g) {l:List PF} (hl:S7 l) {m:Nat} (hm:m<=l.length):AX pR 21 AN (fun v _=>v= .bool true) (st AN [zD a b c d e f g m] (hp [.vec aO l true])):=by
 obtain⟨n,z,r,hc⟩:=z8 hs;obtain⟨hall,rs,h,hne⟩:=oV hc hl m;have hcn:=hc.cn;have n9:=hc.n9;have n4:=hc.n4;have z2:=hc.z2;generalize hp0:xy (KI a b c d e f g) l m=p at h hne;have hlx:=h.AAE (by omega) n9 (by omega);have hws:=h.zN (by omega);have o0:=h.o0;have o1:=h.o1;cases ha:IT p.t 1
 ·have e1:Lm p.d p.t=(0,p.d):=by unfold Lm;rw[ha];rfl
  have hno:∀i:Nat,i < n->BG p.t (i:Nat)≠1:=fun i hi hc=>by
   have hm:1∈p.t.st:=by
    unfold BG at hc;rw[MG,Kd,Jj (by rw[h.tl];exact hi)]at hc;exact hc ▸ AAX _
   have:IT p.t 1=true:=KE hm;rw[ha]at this;cases this
  have hfin:mb n p.d p.x (Ed p.d 0 0 (A8 p.d 0)) 0:=by
   have hr:=h.tq (show 0 < n by omega);have hb:=h.bad (show 0 < n by omega);have hl0:=h.yJ (show 0 < n by omega);have him:=h.im 0 (by omega);exact⟨fun i hi=>⟨h.bad hi,h.zu (by omega) hi (hno i hi)⟩,hb,hr,rfl,by rw[Nt];show(CV p.d ((0:Nat):Int)).b.length < _;rw[him];exact Nat.lt_of_le_of_lt hl0 (by omega),hlx⟩
  refine ZG hW (Q:=fun _=>False) (R:=fun y=>y=nz (KI a b c d e f g) p.nx p.d p.t p.x l (Ed p.d 0 0 (A8 p.d 0)) 0 (M1 p.x.AR:Nat) ((0:Nat):Int)) (fun v H hq=>hq.elim) (fun y hy=>by rw[hy];exact bD hW hcn n9 hfin _ 0 rfl (ay _)) ?_;rw[nK];(conv=>zeta);rw[hp0]
  have hb:=h.bad (show 0 < n by omega);have hr:=h.tq (show 0 < n by omega);refine⟨⟨hs,hm,hall⟩,AZ ha ⟨⟨hb,hr⟩,rfl,rfl,rfl,rfl,hlx,⟨hws,?_⟩,rfl,rfl,rfl,?_⟩⟩
  ·show(Lm p.d p.t).1=0;rw[e1]
  ·show bif (Lm p.d p.t).2.ops != _ then _ else _
   have e2:(Lm p.d p.t).2=p.d:=by rw[e1]
   refine AZ (by rw[e2,Int.add_zero,wrap64 (by omega) (by omega)];simp) ⟨?_,rfl,rfl,rfl,?_⟩
   ·show V4 (Lm p.d p.t).2 p.t/\(Lm (Lm p.d p.t).2 p.t).1=0;rw[e2];exact⟨hws,by rw[e1]⟩
   ·show bif (Lm (Lm p.d p.t).2 p.t).2.ops != _ then _ else nz _ _ (Lm (Lm p.d p.t).2 p.t).2 _ _ _ _ _ _ _=_
    rw[e2,e2];exact AZ (by rw[Int.add_zero,wrap64 (by omega) (by omega)];simp) rfl
 ·obtain⟨hsn,hst⟩:=h.fi ha;have hfi:Bo p.t 1=((Ly p.t.st 1:Nat):Int):=rfl;generalize Ly p.t.st 1=s at hsn hst hfi;have hnes:=hne s hsn (by rw[hst];decide);obtain⟨g1,g2⟩:=h.sync hsn hst (by omega);have hu:FU p.d (s:Nat)=((B3 (rs s)).length:Nat):=by
   rw[h.yF (by omega) hsn,hst];show(((B3 (rs s)).length - (B3 ((rs s).take 0)).length:Nat):Int)=_;rw[AAk];rfl
  have hpos:=dt hnes;generalize hd1:(⟨D6 Cn (s:Nat) p.d.BB,none,p.d.AR,p.d.ops+1,false⟩:Ab)=d1 at g1 g2;have e1:Lm p.d p.t=(0,d1):=by
   unfold Lm;rw[ha,hfi,hu,C8,show((((B3 (rs s)).length:Nat):Int)==0)=false from oH.2 (by omega),EB,g1]
  have hops:d1.ops=p.d.ops+1:=by rw[<-hd1]
  have hu1:FU d1 (s:Nat)=0:=by
   have:=g2.yF (by omega) hsn;have this:FU d1 (s:Nat)=(((bX (BG p.t (s:Nat)) (rs s)).length - iL (BG p.t (s:Nat)) (rs s) (GR (fun _=>0) s (rs s).length s):Nat):Int):=this;rw[this,hst,Mw];show(((B3 (rs s)).length - (B3 ((rs s).take (rs s).length)).length:Nat):Int)=0;rw[qs,me];rfl
  have e2:Lm d1 p.t=(0,d1):=by
   unfold Lm;rw[ha,hfi,hu1];rfl
  have hws1:V4 d1 p.t:=g2.zN (by omega);have hfin:mb n d1 p.x (Ed p.d (s:Nat) 0 (A8 p.d (s:Nat))) (s:Nat):=by
   refine⟨fun i hi=>⟨g2.bad hi,?_⟩,g2.bad hsn,g2.tq hsn,ew ?_,?_,hlx⟩
   ·by_cases ei:i=s
    ·subst ei;exact hu1
    ·exact g2.zu (by omega) hi fun h1=>ei (h.ta i s hi hsn h1 hst)
   ·have i1:CV d1 (s:Nat)=_:=g2.im s hsn;rw[i1,h.im s hsn]
   ·rw[Nt,h.im s hsn];have:=h.yJ hsn;show(bX _ _).length < _;omega
  refine ZG hW (Q:=fun _=>False) (R:=fun y=>y=nz (KI a b c d e f g) p.nx d1 p.t p.x l (Ed p.d (s:Nat) 0 (A8 p.d (s:Nat))) (s:Nat) (M1 p.x.AR:Nat) ((0:Nat):Int)) (fun v H hq=>hq.elim) (fun y hy=>by rw[hy];exact bD hW hcn n9 hfin _ 0 rfl (ay _)) ?_;rw[nK];(conv=>zeta);rw[hp0,hfi]
  have hb:=h.bad hsn;have hr:=h.tq hsn;have hmin:(if (1:Int) < FU p.d (s:Nat)then 1 else FU p.d (s:Nat))=1:=MB (by rw[hu];omega);rw[hmin];refine⟨⟨hs,hm,hall⟩,AB ha ⟨hb,⟨hb,hr⟩,rfl,rfl,rfl,rfl,hlx,⟨hws,?_⟩,rfl,rfl,rfl,?_⟩⟩
  ·show(Lm p.d p.t).1=0;rw[e1]
  ·show bif (Lm p.d p.t).2.ops != _ then _ else _
   have e3:(Lm p.d p.t).2=d1:=by rw[e1]
   have e4:(Lm d1 p.t).2=d1:=by rw[e2]
   refine AZ (by rw[e3,hops,wrap64 (by omega) (by omega)];simp) ⟨?_,rfl,rfl,rfl,?_⟩
   ·show V4 (Lm p.d p.t).2 p.t/\(Lm (Lm p.d p.t).2 p.t).1=0;rw[e3];exact⟨hws1,by rw[e2]⟩
   ·show bif (Lm (Lm p.d p.t).2 p.t).2.ops != _ then _ else nz _ _ (Lm (Lm p.d p.t).2 p.t).2 _ _ _ _ _ _ _=_
    rw[e3,e4];exact AZ (by rw[hops,wrap64 (by omega) (by omega)];simp) rfl
end
end Go.AD
namespace Go.AD
open Go.Proofs Go.ChangeShapes
theorem Xv {P:Program} {W:World} {HH:Type} {enc:TypeId × Value->HH} {base:Nat} {sp:Nat->Bool} {held:Bool} {fuel:Nat} {t:TypeId} {cs:AL} {d:DataW HH} {ps:List MemPlace} {fs:Array Field} (hu:P.underlying t=some (.struct fs)) (h:DataW.trod enc P W base sp held fuel t cs=some (d,ps)) {fd:Field} (hfd:fd∈fs.toList):
 ∃fuel2 d2 ps2,DataW.trod enc P W base sp held fuel2 fd.type ((cs.drop fd.offset).take (P.cellsOf fd.type))=some (d2,ps2):=by
 cases fuel with
 | zero=>cases h
 | succ fuel=>
  unfold DataW.trod at h;rw[hu]at h;have key:∃xs,(fs.toList.mapM fun f=>DataW.trod enc P W base sp held fuel f.type ((cs.drop f.offset).take (P.cellsOf f.type)))=some xs:=by
   simp only at h
   by_cases hc:cs.length=P.cellsOf t
   ·rw[MB hc,GS]at h;obtain⟨xs,hxs,_⟩:=h;exact⟨xs,hxs⟩
   ·rw[JT hc]at h;cases h
  obtain⟨xs,hxs⟩:=key;obtain⟨⟨d2,ps2⟩,hy⟩:=mapM_mem hxs fd hfd;exact⟨fuel,d2,ps2,hy⟩
theorem PR {n:Int} (h:IntKind.u8.has n):AAJ n:=⟨h.1,by have h2:n<=255:=h.2;omega⟩
theorem xQ {l:List PF} (hl:∀y∈l,EK.Ms aO y):S7 l:=fun y hy=>by
 have h:=hl y hy;have w:∀n:Int,(Lit.int .u8 n).wf=true->0<=n/\n < 256:=fun n h=>by
  unfold Lit.wf at h;simp only[Dg,TL]at h;have h1:(0:Int)<=n:=h.1;have h2:n<=255:=h.2;exact⟨h1,by omega⟩
 exact⟨⟨(w _ h.1).1,(w _ h.2.1).1⟩,(w _ h.2.2).1,(w _ h.2.2).2⟩
section
variable {HH:Type} {enc:TypeId × Value->HH} {W:World}
theorem kj {X:Ctx} (hL0:Eb X (JE W) W) (hn:(X.laid.all fun p=>Nat.blt p.1 20)=true) (hg:∃g,(Gb X.laid g).isSome=true) {r:Go.Reach} {bs:Nat} {v:Value} (hok:Value.okWide Tryz.prog W r bs 25 v) {held:Bool} {fuel:Nat} {d:DataW HH} {ps:List MemPlace} (htr:DataW.trod enc Tryz.prog W 0 (fun _=>true) held fuel 25 v.cells.toList=some (d,ps)):
 ∃(a b c d e f g:Int) (l:List PF) (μ:Ae),dw a b c d e f g/\S7 l/\AJ (JE W) W μ (hp [.vec aO l true]) W/\Bj X μ/\AH μ (zD a b c d e f g l.length) v:=by
 obtain⟨cs,rfl,hf⟩:=nY (ts:=[5,5,5,5,5,5,5,23]) (by kernel_rfl) (by kernel_rfl) (by kernel_rfl) hok;cases hf with | cons h0 hf=>cases hf with | cons h1 hf=>cases hf with | cons h2 hf=>cases hf with | cons h3 hf=>cases hf with | cons h4 hf=>cases hf with | cons h5 hf=>cases hf with | cons h6 hf=>cases hf with | cons h7 hf=>
 cases hf
 obtain⟨a,rfl,ea⟩:=bM Tryz.underlying5 h0;obtain⟨b,rfl,eb⟩:=bM Tryz.underlying5 h1;obtain⟨c,rfl,ec⟩:=bM Tryz.underlying5 h2;obtain⟨d',rfl,ed⟩:=bM Tryz.underlying5 h3;obtain⟨e,rfl,ee⟩:=bM Tryz.underlying5 h4;obtain⟨f,rfl,ef⟩:=bM Tryz.underlying5 h5;obtain⟨g,rfl,eg⟩:=bM Tryz.underlying5 h6;rename_i v7;obtain⟨fuel2,d2,ps2,ht⟩:=Xv Tryz.underlying25 htr (fd:={ name:= "L",type:=23,offset:=7,embedded:=false,tag:= "",pkgPath:= "",byteOffset:=8 }) (by simp);have hc:Tryz.prog.cellsOf 23=1:=by kernel_rfl
 rw[hc]at ht;have ht:DataW.trod enc Tryz.prog W 0 (fun _=>true) held fuel2 23 [v7]=some (d2,ps2):=ht;obtain⟨μ,s1,s2,_⟩:=bq (X:=X) hL0 (n:=20) hn Tryz.underlying23 (k:=aO) (by kernel_rfl) rfl h7 ht;obtain⟨s1b,s2b⟩:=QD (X:=X) hL0 (none_le _) (fun _ hi=>hi) (n:=20) (Rt hn);have s3b:AJ (JE W) W (Gb X.laid) ⟨.leaf,20⟩ W:=s1b.sub (H':=⟨.leaf,20⟩) (fun b o hb=>by rw[GM]at hb;cases hb) (by rw[Hu]);obtain⟨g0,hg0⟩:=hg;obtain⟨T0,hT0⟩:=Option.isSome_iff_exists.1 hg0;obtain⟨l,T1,hl,_,k3,k4,hv1⟩:=iu s3b s2b (fun b p hb=>by rw[GM]at hb;cases hb) ⟨g0,T0,hT0⟩ Tryz.underlying23 (k:=aO) (by kernel_rfl) rfl h7 ht;refine⟨a,b,c,d',e,f,g,l,_,⟨PR ea,PR eb,PR ec,PR ed,PR ee,PR ef,PR eg⟩,xQ hl,k3,k4,?_⟩;refine AH.Ce.2 ⟨_,rfl,?_⟩;unfold Aa at hv1;exact .cons (.int _ _) (.cons (.int _ _) (.cons (.int _ _) (.cons (.int _ _) (.cons (.int _ _) (.cons (.int _ _) (.cons (.int _ _) (.cons hv1 .nil)))))))
end
end Go.AD
