/-
  Part of the proof: the machine that runs a program by fixed orders, and that each of its runs is a run of the model; or a run of it in parts. No conditions.
-/
import Derived.Test.YtkccgiifmlhhjaaGreatDoorLk
import Derived.Shelf.Small.Strs
import Derived.Test.YtkccgiifmlhhjaaGreatDoorChecked
import Derived.Test.YtkccgiifmlhhjaaGreatDoorIdTell3
noncomputable section
set_option maxRecDepth 1000000
namespace Go.AD
open Go.Proofs
theorem JW.trans {H:AA} {rs ss:AW} (h:∀b∈ss,JW H rs b) {c:Nat} (hc:JW H ss c):JW H rs c:=by
 induction hc with
 | here hb=>exact h _ hb
 | next _ ho hr ih=>exact .next ih ho hr
theorem SV (b:Nat):∀n j,Cp b j n=(List.range' j n).map fun j=>Value.pointer (some ⟨b,Aa,some j⟩)
 | 0,j=>rfl
 | n+1,j=>by
  show _::Cp b (j+1) n=_;rw[SV b n (j+1),List.range'_succ];rfl
theorem Yf (b n:Nat):Cp b 0 n=Ds b n:=by
 rw[SV];unfold Ds;rw[List.range_eq_range',Dh]
theorem Told.wG {D:Nat->Prop} {Φ:Ih} {v:Value} {H:AA} {s:Pk} {b0 d:Nat} (bs:AW) {objs:BN} (hr:Bx s objs) (hx:C3 s=[]) (hb0:bs[0]? = some b0) (hA:d∈Au 4 v∨D d) (hd:JW H [d] b0) (hnd:bs.Nodup) (hreach:∀b∈bs,JW H [b0] b) (hobj:Ft bs H bs objs) (hroot:∀o T,objs[0]? = some o->¬o.void T)
 (next:∀H2:AA,(∀x,x∉bs->H2.get x=H.get x)->H2.get b0=some (.abs (.pack s) false)->Told D Φ v H2):Told D Φ v H:=by
 have hS:=E2 (s:=s) (H:=H) hnd;refine .shut s objs bs [d] hr ?_ hobj.len hnd (fun b hb=>by rw[I6]at hb;rw[hb];exact hA) (fun b hb=>JW.trans (fun x hx=>by rw[I6]at hx;rw[hx];exact hd) (hreach b hb)) (by rw[hx];exact hobj.at) hroot (next _ (fun x hx=>hS.GK x hx) (hS.root b0 hb0));rintro rfl;have:=hobj.len;rw[wC]at this;rw[List.length_eq_zero_iff.1 this]at hb0;cases hb0
theorem cJ {b0 r a:Nat} {L:List AS} {H:AA} (hn:0 < L.length) (hn2:L.length<=34) (h:ml b0 r a L H):∃objs,Bx (.Bw L) objs/\[b0,r,a][0]? = some b0/\[b0,r,a].Nodup/\(∀b∈[b0,r,a],JW H [b0] b)/\Ft [b0,r,a] H [b0,r,a] objs/\(∀o T,objs[0]? = some o->¬o.void T):=Qz hn hn2 h
theorem eS {d a b:Nat} {s:Ab} {H:AA} (hd:FQ s) (hn:[d,a,b].Nodup) (h:[H.get d,H.get a,H.get b]=eh a b s):∃objs,Bx (.dev s) objs/\[d,a,b][0]? = some d/\[d,a,b].Nodup/\(∀x∈[d,a,b],JW H [d] x)/\Ft [d,a,b] H [d,a,b] objs/\(∀o T,objs[0]? = some o->¬o.void T):=by
 simp only[eh,JB,dM]at h;obtain⟨g0,g1,g2⟩:=h;refine⟨_,.dev s hd,rfl,hn,fun x hx=>?_,⟨⟨_,g0,rfl,rfl,?_⟩,⟨_,g1,rfl,rfl,by rfl⟩,⟨_,g2,rfl,rfl,by rfl⟩,trivial⟩,fun o T ho=>by cases ho;exact id⟩
 ·simp only[WL,Yk,lG]at hx;rcases hx with rfl | rfl | rfl
  ·exact .here (by simp)
  ·exact .next (.here (by simp)) g0 (by simp[IK,Au,At,ND])
  ·exact .next (.here (by simp)) g0 (by simp[IK,Au,At,ND])
 ·refine Qx ?_ ?_ _ _ _
  ·rfl
  ·rfl
theorem AB3 {D:Nat->Prop} {Φ:Ih} {v:Value} {H:AA} {d c R m:Nat} {L:List AS} {zs:AW} (hn:0 < L.length) (hn2:L.length<=34) (hm:m=L.length) (hz:zs.length=L.length) (hnd:(c::R::zs).Nodup) (gc:H.get c=some (.cells [.slice (some ⟨R,0,none⟩) m (Aa+m)] 0 false))
 (gR:H.get R=some (.cells (zs.map At) 1 false)) (gz:∀p∈zs.zip (L.map Pk.CJ),H.get p.1=some (.abs (.pack p.2) false)) (hA:d∈Au 4 v∨D d) (hrc:∀K:AA,(∀x o,H.get x=some o->x≠c->x≠R->x∉zs->K.get x=some o)->JW K [d] c)
 (next:∀H2:AA,H2.get c=some (Lv (.Bw L))->(∀x o,H.get x=some o->x≠c->x≠R->x∉zs->H2.get x=some o)->Told D Φ v H2):Told D Φ v H:=by
 generalize hzz:zs.zip (L.map Pk.CJ)=zz at gz;have hzl:zz.map Prod.fst=zs:=by rw[<-hzz];exact List.map_fst_zip (by rw[cw,hz];exact CC _)
 have hzs:zz.map (fun p=>some p.2)=L.map fun m=>some (.CJ m):=by
  have:zz.map Prod.snd=L.map Pk.CJ:=by rw[<-hzz];exact List.map_snd_zip (by rw[cw,hz];exact CC _)
  rw[show(fun p:Nat × Pk=>some p.2)=some ∘ Prod.snd from rfl,<-uk,this,uk];rfl
 have hlen:zz.length=m:=by rw[hm,<-hz,<-hzl,cw]
 have hzx:∀p∈zz,C3 p.2=[]:=fun p _=>rfl
 simp only[fg,WL,dt]at hnd;obtain⟨⟨n5,n7⟩,n9,n11⟩:=hnd;have zne:∀p∈zz,p.1∈zs:=fun p hp=>by rw[<-hzl];exact List.mem_map.2 ⟨p,hp,rfl⟩
 have Jl:zs.map At=zz.map fun p=>Value.pointer (some ⟨p.1,0,none⟩):=by rw[<-hzl,uk];rfl
 have hzne:zs≠[]:=by intro e;rw[e]at hz;have hz:(0:Nat)=L.length:=hz;omega
 refine .JF R [.tok] (zs.map At) false (by rw[D9];exact gR) ?_;refine .wy R [.tok] (zs.map At) false (by rw[AA.AU,HI rfl]) (by intro e;exact hzne (List.map_eq_nil_iff.1 e)) (by decide) v (.val (.same v)) c _ _ 0 false (by rw[AA.AU,E7 n5];exact gc) (.cons (.row m _ m rfl) .nil) ?_;generalize hH1:(H.put R (.vec [.tok] (zs.map At) false)).put c (.cells [.slice (some ⟨R,0,some 0⟩) m Aa] 0 false)=H1;have get1:∀x,H1.get x=if x=c then some (.cells [.slice (some ⟨R,0,some 0⟩) m Aa] 0 false)else if x=R then some (.vec [.tok] (zs.map At) false)else H.get x:=fun x=>by rw[<-hH1,AA.AU,AA.AU]
 have hfar1:∀x o,H.get x=some o->x≠c->x≠R->H1.get x=some o:=fun x o hx h1 h2=>by rw[get1,E7 h1,E7 h2];exact hx
 have hc1:H1.get c=some (.cells [.slice (some ⟨R,0,some 0⟩) m Aa] 0 false):=by rw[get1,HI rfl]
 have hR1:H1.get R=some (.vec [.tok] (zz.map fun p=>Value.pointer (some ⟨p.1,0,none⟩)) false):=by rw[get1,E7 (Zn n5),HI rfl,Jl]
 have hz1:∀p∈zz,H1.get p.1=some (.abs (.pack p.2) false):=fun p hp=>by
  have:=zne p hp;rw[get1,E7 (fun e=>n7 (by rw[<-e];exact this)),E7 (fun e=>n9 (by rw[<-e];exact this))];exact gz p hp
 have rR:∀{K:AA},JW K [d] c->K.get c=some (.cells [.slice (some ⟨R,0,some 0⟩) m Aa] 0 false)->JW K [d] R:=fun g g2=> .next g g2 (by simp[IK,Au])
 have rc1:JW H1 [d] c:=hrc H1 fun x o hx h1 h2 _=>hfar1 x o hx h1 h2
 refine .members R zz [d] hR1 (fun p hp=>⟨hz1 p hp,hzx p hp⟩) (by rw[hzl];exact n11) (by intro e;rw[e]at hlen;have hlen:0=m:=hlen;omega) (fun b hb=>by rw[I6]at hb;rw[hb];exact hA) (fun p hp=> .next (rR rc1 hc1) hR1 ?_) fun hlt=>?_
 ·show p.1∈(Ag [.tok] _).flatMap (Au 4);rw[D9];exact List.mem_flatMap.2 ⟨.pointer (some ⟨p.1,0,none⟩),List.mem_map.2 ⟨p,hp,rfl⟩,by simp[Au]⟩
 have al:∀x,x < H1.next->(H1.alloc (.abs (.Bl []) false)).get x=H1.get x:=fun x hx=>by rw[AA.AM,E7 (lS hx)]
 obtain⟨k1,k2,k3,k4⟩:=QN (r:=R) zz H1.next [] (H1.alloc (.abs (.Bl []) false)) (fun x o hx=>by
  rw[AA.AM]at hx;show x < H1.next+1
  by_cases e:x=H1.next
  ·omega
  ·rw[E7 e]at hx;have:=hlt _ _ hx;omega) (by rw[AA.AM,HI rfl]) (by rw[al R (hlt _ _ hR1)];exact hR1) (fun p hp=>by rw[al _ (hlt _ _ (hz1 p hp))];exact hz1 p hp) (by rw[hzl];exact n11)
 generalize hA2:Ep R zz H1.next [] (H1.alloc (.abs (.Bl []) false))=A at k1 k2 k3 k4 ⊢;obtain⟨a,H2⟩:=A;simp only at k1 k2 k3 k4 ⊢;have hage:H1.next<=a:=by
  rcases k4 with k4 | k4
  ·omega
  ·exact jP (rO _) k4
 have DG:∀x o,H1.get x=some o->x≠R->x∉zs->H2.get x=some o:=fun x o hx h1 h2=>by
  have hl:=hlt _ _ hx;rw[k3 x h1 (by omega) (by rw[hzl];exact h2) (show x < H1.next+1 by omega),al x hl];exact hx
 have hc2:=DG c _ hc1 n5 n7;have hcl:=hlt _ _ hc1;have hRl:=hlt _ _ hR1;have hat:ml c R a L H2:=by
  refine⟨by simp only[fg,WL,Yk,lG,dt,HM,dM,not_false_eq_true];exact⟨⟨n5,by omega⟩,by omega⟩,?_,?_,?_⟩
  ·rw[hc2];unfold Uw Ao;rw[hm,Dh]
  ·rw[k1,Yf,<-hm];simp only[wC,Hq,hlen]
  ·rw[k2,hzs];rfl
 have rc2:JW H2 [d] c:=hrc H2 fun x o hx h1 h2 h3=>DG x o (hfar1 x o hx h1 h2) h2 h3
 obtain⟨objs,q1,q2,q3,q4,q5,q6⟩:=cJ hn hn2 hat
 refine Told.wG [c,R,a] q1 rfl q2 hA rc2 q3 q4 q5 q6 fun H3 h3 h4=>next H3 h4 fun x o hx h1 h2 h5=>?_
 have hx1:=hfar1 x o hx h1 h2;have hxl:=hlt _ _ hx1;rw[h3 x (by simp only[WL,Yk,lG,dt];exact⟨h1,h2,by omega⟩)];exact DG x o hx1 h2 h5
theorem ABh {D:Nat->Prop} {Φ:Ih} {v:Value} {H:AA} {d c t n:Nat} {L:List AS} {o:Int} (hn:2<=n) (hn2:n<=32) (hL:L.length=n+2) (hnd:[d,c,t].Nodup) (hd3:H.get d=some (ND c t n o false)) (h4:H.get c=some (Lv (.Bw L))) (ht3:H.get t=some (Lv (.timer none))) (hA:d∈Au 4 v∨D d)
 (next:∀H2:AA,H2.get d=some (Lv (.dev ⟨L,none,n,o,false⟩))->(∀x,x∉[d,c,t]->H2.get x=H.get x)->Told D Φ v H2):Told D Φ v H:=by
 obtain⟨objs,q1,q2,q3,q4,q5,q6⟩:=eS (d:=d) (a:=c) (b:=t) (s:=⟨L,none,n,o,false⟩) (H:=H) ⟨by show(2:Int)<=n;omega,by show(n:Int)<=32;omega,by show(L.length:Int)=n+2;omega,fun p hp=>by cases hp⟩ hnd (by rw[hd3,h4,ht3];rfl);exact Told.pO [d,c,t] q1 rfl q2 hA q3 q4 q5 q6 fun H4 g h5=>next H4 h5 g
theorem o5 {D:Nat->Prop} {Φ:Ih} {v:Value} {H:AA} {d c R t n:Nat} {L:List AS} {zs:AW} (hn:2<=n) (hn2:n<=32) (hL:L.length=n+2) (hz:zs.length=L.length) (hnd:(d::c::R::t::zs).Nodup) (gd:H.get d=some (ND c t n 0 false)) (gc:H.get c=some (.cells [.slice (some ⟨R,0,none⟩) (n+2) (Aa+(n+2))] 0 false))
 (gR:H.get R=some (.cells (zs.map At) 1 false)) (gt:H.get t=some (Lv (.timer none))) (gz:∀p∈zs.zip (L.map Pk.CJ),H.get p.1=some (.abs (.pack p.2) false)) (hA:d∈Au 4 v∨D d) (next:∀H2:AA,H2.get d=some (Lv (.dev ⟨L,none,n,0,false⟩))->Told D Φ v H2):Told D Φ v H:=by
 simp only[fg,WL,dt]at hnd;obtain⟨⟨n1,n2,n3,n4⟩,⟨n5,n6,n7⟩,⟨n8,n9⟩,n10,n11⟩:=hnd;refine AB3 (c:=c) (R:=R) (m:=n+2) (by omega) (by omega) hL.symm hz (by simp only[fg,WL,dt];exact⟨⟨n5,n7⟩,n9,n11⟩) gc gR gz hA (fun K hK=> .next (.here (by simp)) (hK d _ gd n1 n2 n4) (by simp[IK,Au,At,ND])) fun H3 h4 hK=>?_
 exact ABh hn hn2 hL (by simp only[fg,WL,Yk,lG,dt,HM,dM,not_false_eq_true];exact⟨⟨n1,n3⟩,n6⟩) (hK d _ gd n1 n2 n4) h4 (hK t _ gt (Zn n6) (Zn n8) n10) hA fun H2 g _=>next H2 g
def ZV (args:AL) (objs:BN):GT:=match args,objs with
 | [.int .i64 n,.int .i64 s],[]=> .ask (2<=n/\n<=32/\1<=s/\s<=8192) (.ret ⟨.tuple ⟨[At 20,int 0]⟩,[],[.abs (.pack (.dev ⟨(nf n.toNat s).map fun a=>⟨a,0,[]⟩,none,n,0,false⟩)) false]⟩)
 | _,_=> .fail
theorem Wy {K:Prop} (hK:K):∀l:Ad,(∀a∈l,1<=a/\a<=8192)->jx K l
 | [],_=>hK
 | a::l,h=>⟨h a (SD ..),Wy hK l fun b hb=>h b (ZH _ hb)⟩
theorem gg {K:Prop} (hK:K):∀l:AW,xx K l
 | []=>hK
 | _::l=>⟨rfl,gg hK l⟩
theorem UR (n:Nat) (s:Int):(nf n s).length=n+2:=by unfold nf;simp
theorem a8 (n:Nat):(dq n).length=n+2:=by unfold dq;simp
theorem gP (n:Nat):((Ny n+2)::24::Ny n::(Ny n+1)::dq n).Nodup:=by
 have hm:∀x∈dq n,25<=x/\x < Ny n:=fun x hx=>by
  unfold dq at hx;obtain⟨i,hi,rfl⟩:=List.mem_map.1 hx;have:=List.mem_range.1 hi;unfold Ny;omega
 have hn:(dq n).Nodup:=by
  unfold dq;rw[List.nodup_iff_pairwise_ne,List.pairwise_map];exact(List.nodup_iff_pairwise_ne.1 List.nodup_range).imp fun h e=>h (by omega)
 have h24:24 < Ny n:=by unfold Ny;omega
 simp only[fg,WL,dt];exact⟨⟨by omega,by omega,by omega,fun h=>by have:=hm _ h;omega⟩,⟨by omega,by omega,fun h=>by have:=hm _ h;omega⟩,⟨by omega,fun h=>by have:=hm _ h;omega⟩,fun h=>by have:=hm _ h;omega,hn⟩
theorem aT {H:AA}:∀(zs:AW) (l:Ad) (x:Option AP),zs.length=l.length->zs.map H.get++[x]=l.map (fun a=>some (.abs (.pack (.CJ ⟨a,0,[]⟩)) false))++[x]->∀p∈zs.zip ((l.map fun a=>(⟨a,0,[]⟩:AS)).map Pk.CJ),H.get p.1=some (.abs (.pack p.2) false)
 | [],[],_,_,_,p,hp=>by cases hp
 | z::zs,a::l,x,hl,h,p,hp=>by
  simp only[X5,kE,JB]at h;simp only[X5,List.zip_cons_cons,WL]at hp;rcases hp with rfl | hp
  ·exact h.1
  ·exact aT zs l x (by simpa using hl) h.2 p hp
 | [],_::_,_,hl,_,_,_=>by cases hl
 | _::_,[],_,hl,_,_,_=>by cases hl
theorem bw:CY Tryz.prog AI EL (Ai AI 20 [] ZV):=by
 refine BF yc.all (by kernel_rfl) (n:=BD EL) (by kernel_rfl) (by kernel_rfl) fun argsc objs x hx hro=>?_
 clear hro;unfold ZV at hx;split at hx
 ·rename_i n s;refine⟨VC (by kernel_rfl),Ak.OE ?_⟩;simp only[GT.run]at hx;split at hx
  ·rename_i h;cases hx
   obtain⟨h2,h32,hs,hs2⟩:=h;obtain⟨m,rfl⟩:∃m:Nat,n=m:=⟨n.toNat,by omega⟩
   have hm2:2<=m:=by omega
   have hm32:m<=32:=by omega
   have hv:CU XW (Ax cW) [] EL (24::Ny m::(Ny m+1)::dq m) 20 (fun v os=>v= .tuple ⟨[At (Ny m+2),int 0]⟩/\os=xY m s) 8000 (st EL [int m,int s] (hp [])):=by
    rw[fV m hm2 hm32];exact gg (Wy ⟨rfl,rfl⟩ _ fun a ha=>by
     unfold nf at ha;rcases List.mem_append.1 ha with ha | ha
     ·rw[List.mem_replicate]at ha;omega
     ·simp only[WL,Yk,lG]at ha;omega) _
   refine Ak.mono (AX.Fh (BK yc.pf (by kernel_rfl) hv)) fun v H ⟨e,hq⟩=>?_
   subst e;have hq:H.get 24::H.get (Ny m)::H.get (Ny m+1)::((dq m++[Ny m+2]).map H.get)=xY m s:=hq;unfold xY at hq;rw[aG]at hq;simp only[JB]at hq;obtain⟨g1,g2,g3,g4⟩:=hq;have gl:H.get (Ny m+2)=some (ND 24 (Ny m+1) m 0 false):=by
    have:=congrArg List.getLast? g4;simpa using this
   have g5:(dq m).map H.get++[some (ND 24 (Ny m+1) m 0 false)]=(nf m s).map (fun a=>some (.abs (.pack (.CJ ⟨a,0,[]⟩)) false))++[some (ND 24 (Ny m+1) m 0 false)]:=by
    rw[<-g4,<-gl];rfl
   refine o5 (d:=Ny m+2) (c:=24) (R:=Ny m) (t:=Ny m+1) (n:=m) (L:=(nf m s).map fun a=>⟨a,0,[]⟩) (zs:=dq m) hm2 hm32 (by rw[cw,UR]) (by rw[cw,UR,a8]) (gP m) gl g1 g2 g3 (aT _ _ _ (by rw[UR,a8]) g5) (.inl (by simp[Au,At])) fun H2 g=> .here ?_
   refine⟨[Ny m+2],by simp,fun b hb=>by rw[I6]at hb;rw[hb];show 20+0<=_;unfold Ny;omega,rfl,rfl,fun j b o hb ho=>?_,fun j o hj=>(by cases hj)⟩;cases j with
   | zero=>cases hb;cases ho;exact⟨_,rfl,g⟩
   | succ j=>cases hb
  ·cases hx
 ·cases hx
abbrev XCp:Ctx:=Bp Tryz.prog AI (Cv (cD ⟨0,0,[]⟩))
def cpS:Stop:=⟨xf,0,3,23,[20,21,22],[3,14,15,16]⟩
def AAi:AP:= .vec [.tok] (Ds 22 7) false
def cpP (p:AW):Code:=A9 Tryz.prog xf p
def ADK (i:Nat):Aj:=⟨xf,EZ [(3,At 23),(14,Ao 21 7),(15,int 7),(16,int (i:Nat))],BD xf,[.code (cpP [1,1,1,0,1,0,0]),.inLoop (cpP [1,1,1,0,1,0,0]),.inBlock 0,.code (cpP [1,1,1,1])],[],false,.normal,none⟩
def cpV:Nat->Value
 | 0=> .slice none 0 0
 | i+1=> .slice (some ⟨24,0,none⟩) (i+1) (Aa+(i+1))
def cpO (f:Nat->AS):Nat->BN
 | 0=>[]
 | i+1=> .cells ((List.range (i+1)).map fun j=>At (25+j)) 1 false::(List.range (i+1)).map fun j=> .abs (.pack (.CJ (f j))) false
def cpT (o:List (Option Pk)) (f:Nat->AS) (i:Nat):BT:=⟨ADK i,[],hp ([Uw 21 7,AAi,.abs (.Bl o) false,.cells [cpV i] 0 false]++cpO f i)⟩
def cpI:AW:=[20,21,22,24,25,26,27,28,29,30,31]
theorem ACt (o:List (Option Pk)) (f:Nat->AS) (Q:Bm) (R:Bz):Iy XCp (Ax (cD ⟨0,0,[]⟩)) [] xf cpI cpS [] Q R 500 (st xf [At 20] (hp [Uw 21 7,AAi,.abs (.Bl o) false]))=(
 (R (cpT o f 0))):=by kernel_rfl
theorem ADH {i:Nat} (hi:i < 7) (o:List (Option Pk)) (f:Nat->AS) (Q:Bm) (R:Bz):Iy XCp (Ax (cD (f i))) [] xf cpI cpS [] Q R 500 (cpT o f i)=
 (Tq o i (.CJ (f i))/\GD (.CJ (f i)) o (o.set i none) i/\cpV i=cpV i/\At 23=At 23/\At 23=At 23/\At 23=At 23/\At 23=At 23/\At 23=At 23/\R (cpT (o.set i (some (.CJ (f i)))) f (i+1))):=by
 match i,hi with
 | 0,_=>show _=_;kernel_rfl
 | 1,_=>show _=_;kernel_rfl
 | 2,_=>show _=_;kernel_rfl
 | 3,_=>show _=_;kernel_rfl
 | 4,_=>show _=_;kernel_rfl
 | 5,_=>show _=_;kernel_rfl
 | 6,_=>show _=_;kernel_rfl
 | i+7,h=>exact absurd h (by omega)
theorem AC6 (o:List (Option Pk)) (f:Nat->AS) (m:AS) (Q:Bm) (R:Bz):Iy XCp (Ax (cD m)) [] xf cpI cpS [] Q R 500 (cpT o f 7)=
 Q (At 23) ([some (Uw 21 7),some AAi,some (.abs (.Bl o) false),some (.cells ((List.range 7).map fun j=>At (25+j)) 1 false)]++((List.range 7).map fun j=>some (.abs (.pack (.CJ (f j))) false))++[some (.cells [cpV 7] 0 false)]):=by kernel_rfl
def ACp (L:List AS) (f:Nat->AS) (v:Value) (H:AA):Prop:=v=At 23/\cpI.map H.get++[H.get 23]=[some (Uw 21 7),some AAi,some (MA L),some (.cells ((List.range 7).map fun j=>At (25+j)) 1 false)]++((List.range 7).map fun j=>some (.abs (.pack (.CJ (f j))) false))++[some (.cells [cpV 7] 0 false)]
theorem ACd {L:List AS} {f:Nat->AS} (hL:L.length=7) (hf:∀i,i < 7->L[i]? = some (f i)):∀(k i:Nat),7 - i=k->i<=7->AX XCp 21 xf (ACp L f) (cpT (L.map fun m=>some (.CJ m)) f i):=by
 intro k;induction k with
 | zero=>
  intro i hk hi;have e:i=7:=by omega
  subst e;refine Bq (iE ⟨0,0,[]⟩) [] cpI cpS [] (by kernel_rfl) (by decide) (fun v os=>v=At 23/\os=[some (Uw 21 7),some AAi,some (MA L),some (.cells ((List.range 7).map fun j=>At (25+j)) 1 false)]++((List.range 7).map fun j=>some (.abs (.pack (.CJ (f j))) false))++[some (.cells [cpV 7] 0 false)]) (fun _=>False) (fun v H hq=>?_) (fun c h=>h.elim) (n:=500) ?_
  ·obtain⟨rfl,hos⟩:=hq;refine⟨rfl,?_⟩;rw[aG]at hos;exact hos
  ·rw[AC6];exact⟨rfl,rfl⟩
 | succ k ih=>
  intro i hk hi;have hi7:i < 7:=by omega
  have h:=hf i hi7;have hset:(L.map fun m=>some (Pk.CJ m)).set i (some (.CJ (f i)))=L.map fun m=>some (Pk.CJ m):=by
   apply To
   intro j;rw[JP,cw,LW];split
   ·rename_i e;subst e;rw[HI (by omega),h];rfl
   ·rfl
  refine Bq (iE (f i)) [] cpI cpS [] (by kernel_rfl) (by decide) (fun _ _=>False) (fun c=>c=cpT (L.map fun m=>some (.CJ m)) f (i+1)) (fun v H h=>h.elim) (fun c hc=>by rw[hc];exact ih (i+1) (by omega) (by omega)) (n:=500) ?_;rw[ADH hi7,hset];exact⟨⟨by rw[LW,h];rfl⟩,⟨rfl,rfl⟩,rfl,rfl,rfl,rfl,rfl,rfl,rfl⟩
def ADC (L:List AS):Prop:=L.length=7
def cpQ:Gk:=fun p rest os=>match p,rest,os with
 | .Bw L,[],[]=> .ask (ADC L) (.ret ⟨At 21,.Bw L,[Lv (.Bw L)]⟩)
 | _,_,_=> .fail
theorem ABp:CY Tryz.prog AI xf (Ai AI 20 [true] (CX 20 cpQ)):=by
 refine Ek (vn i0).all (by kernel_rfl) (by kernel_rfl) (n:=BD xf) (by kernel_rfl) (fun _=>rfl) fun p rest os=>?_
 unfold cpQ;split
 ·rename_i L;intro h7;have h7:L.length=7:=h7;refine⟨VC (by kernel_rfl),fun objs hr=>?_⟩;obtain⟨⟨h0,h34⟩,hO⟩:=Tj L objs hr;refine⟨_,hO,?_⟩;have hf:∀i,i < 7->L[i]? = some (L.getD i i0):=fun i hi=>by rw[F5,FL (by omega)];rfl
  have hLf:L=(List.range 7).map fun i=>L.getD i i0:=by
   apply To
   intro j;rw[LW]
   by_cases hj:j < 7
   ·rw[pb hj,hf j hj];rfl
   ·rw[NC (by omega),NC (by rw[List.length_range];omega)];rfl
  have hrun:AX XCp 21 xf (ACp L fun i=>L.getD i i0) (st xf [At 20] (pT L)):=by
   refine Bq (iE ⟨0,0,[]⟩) [] cpI cpS [] (by kernel_rfl) (by decide) (fun _ _=>False) (fun c=>c=cpT (L.map fun m=>some (.CJ m)) (fun i=>L.getD i i0) 0) (fun v H h=>h.elim) (fun c hc=>by rw[hc];exact ACd h7 hf 7 0 rfl (by omega)) (n:=500) ?_;have e:pT L=hp [Uw 21 7,AAi,.abs (.Bl (L.map fun m=>some (.CJ m))) false]:=by unfold pT AAi MA;rw[h7]
   rw[e,ACt _ fun i=>L.getD i i0]
  refine Ak.mono (AX.Fh hrun) fun v H hQ=>?_
  obtain⟨rfl,hQ⟩:=hQ;generalize hff:(fun i=>L.getD i i0)=f at hQ hLf;have hQ:[H.get 20,H.get 21,H.get 22,H.get 24,H.get 25,H.get 26,H.get 27,H.get 28,H.get 29,H.get 30,H.get 31,H.get 23]=[some (Uw 21 7),some AAi,some (MA L),some (.cells ((List.range 7).map fun j=>At (25+j)) 1 false),some (.abs (.pack (.CJ (f 0))) false),some (.abs (.pack (.CJ (f 1))) false),some (.abs (.pack (.CJ (f 2))) false),some (.abs (.pack (.CJ (f 3))) false),some (.abs (.pack (.CJ (f 4))) false),some (.abs (.pack (.CJ (f 5))) false),some (.abs (.pack (.CJ (f 6))) false),some (.cells [cpV 7] 0 false)]:=hQ;simp only[JB,dM]at hQ;obtain⟨g20,g21,g22,g24,g25,g26,g27,g28,g29,g30,g31,g23⟩:=hQ;refine AB3 (d:=23) (c:=23) (R:=24) (m:=7) (L:=L) (zs:=[25,26,27,28,29,30,31]) h0 h34 h7.symm (by rw[h7];rfl) (by decide) g23 g24 ?_ (.inl (by simp[Au,At])) (fun K _=> .here (by simp)) fun H2 k1 k2=> .here ?_
  ·rw[hLf];intro p hp;have hp:p∈[(25,Pk.CJ (f 0)),(26,Pk.CJ (f 1)),(27,Pk.CJ (f 2)),(28,Pk.CJ (f 3)),(29,Pk.CJ (f 4)),(30,Pk.CJ (f 5)),(31,Pk.CJ (f 6))]:=hp;simp only[WL,Yk,lG]at hp;rcases hp with rfl | rfl | rfl | rfl | rfl | rfl | rfl
   ·exact g25
   ·exact g26
   ·exact g27
   ·exact g28
   ·exact g29
   ·exact g30
   ·exact g31
  ·have hat:ml 20 21 22 L H2:=⟨by decide,by rw[k2 20 _ g20 (by decide) (by decide) (by decide),h7],by rw[k2 21 _ g21 (by decide) (by decide) (by decide),h7];rfl,k2 22 _ g22 (by decide) (by decide) (by decide)⟩;obtain⟨objs,q1,q2,q3,q4,q5,q6⟩:=cJ h0 h34 hat
   exact Sc [20,21,22] [23] q1 rfl q2 q3 q4 q5 q6 (by simp) (fun b hb=>by rw[I6]at hb;rw[hb];decide) rfl ⟨⟨_,rfl,k1⟩,trivial⟩
 ·trivial
def cCv:List GA:=[GQ xf [true] (CX 20 cpQ),GQ y6 [true] (CX 20 xu)]
abbrev XCv:Ctx:=Bp Tryz.prog AI (Cv cCv)
theorem ACB (L:List AS) (o:Int) (Q:Bm):CU XCv (Ax cCv) [] zF [20,21,22,23,24] 21 Q 500 (st zF [At 20] (lO L none 5 o false))=(
 let i:=Ct.pack (Pk.timer none);let h:Value:= .pointer (some ⟨20,1,none⟩);let g:=((int 5):Value)=(int 5);let f:=((int o):Value)=(int o);let e:=((.bool false):Value)=(.bool false);let d:Value:= .pointer (some ⟨20,2,none⟩);let c:Value:= .pointer (some ⟨20,3,none⟩);let b:Value:= .pointer (some ⟨20,4,none⟩);let a:=((At 20):Value)=(At 20);(ADC L)/\e/\((b:Value)=b)/\a/\a/\f/\((c:Value)=c)/\a/\a/\g/\((d:Value)=d)/\a/\a/\(((At 22):Value)=(At 22))/\((h:Value)=h)/\a/\a/\a/\e/\((b:Value)=b)/\a/\a/\f/\((c:Value)=c)/\a/\a/\g/\((d:Value)=d)/\a/\a/\(Q (At 25) [some (.cells [(At 21),(At 22),(int 5),(int o),(.bool false)] 0 false),some (.abs (Ct.pack (PL.nx { v:=At 21,nx:=Pk.Bw L,news:=[Lv (Pk.Bw L)] })) false),some (.abs (Ct.pack (PL.nx { v:=At 21,nx:=Pk.timer none,news:=[AP.abs i false] })) false),some (.abs (Ct.pack (Pk.Bw L)) false),some (.abs i false),some (.cells [(At 23),(At 24),(int 5),(int o),(.bool false)] 0 false)])):=by kernel_rfl
theorem ADE:Ci cCv:= .cons ABp (.cons AB8 .nil)
structure ACR (d:Ab):Prop where
 sl:d.AR=5
 pl:d.BJ=none
 dn:d.down=false
 len:d.BB.length=7
def ABd:Gk:=fun p rest os=>match p,rest,os with
 | .dev d,[],[]=> .ask (ACR d) (.ret ⟨At 21,.dev d,[Lv (.dev d)]⟩)
 | _,_,_=> .fail
theorem ABm:CY Tryz.prog AI zF (Ai AI 20 [true] (CX 20 ABd)):=by
 refine Ek ADE.all (by kernel_rfl) (by kernel_rfl) (n:=BD zF) (by kernel_rfl) (fun _=>rfl) fun p rest os=>?_
 unfold ABd;split
 ·rename_i d;intro h;refine⟨VC (by kernel_rfl),fun objs hr=>?_⟩;obtain⟨hd,hO⟩:=NI d objs hr;refine⟨_,hO,?_⟩;obtain⟨L,pl,s,o,dn⟩:=d;obtain⟨h1,h2,h3,h4⟩:=h;have h1:s=5:=h1;have h2:pl=none:=h2;have h3:dn=false:=h3;subst h1 h2 h3;have hv:CU XCv (Ax cCv) [] zF [20,21,22,23,24] 21 (fun v os=>v=At 25/\os=[some (ND 21 22 5 o false),some (Lv (.Bw L)),some (Lv (.timer none)),some (Lv (.Bw L)),some (Lv (.timer none)),some (ND 23 24 5 o false)]) 500 (st zF [At 20] (lO L none 5 o false)):=by
   rw[ACB];refine⟨h4,?_⟩
   repeat (refine⟨rfl,?_⟩)
   rfl
  refine Ak.mono (AX.Fh (BK ADE.pf (by kernel_rfl) hv)) fun v H hQ=>?_
  obtain⟨rfl,hQ⟩:=hQ;have hQ:[H.get 20,H.get 21,H.get 22,H.get 23,H.get 24,H.get 25]=_:=hQ;simp only[JB,dM]at hQ;obtain⟨g20,g21,g22,g23,g24,g25⟩:=hQ;refine ABh (d:=25) (c:=23) (t:=24) (n:=5) (L:=L) (o:=o) (by decide) (by decide) h4 (by decide) g25 g23 g24 (.inl (by simp[Au,At])) fun H2 k1 k2=> .here ?_
  obtain⟨objs,q1,q2,q3,q4,q5,q6⟩:=eS (d:=20) (a:=21) (b:=22) (s:=⟨L,none,5,o,false⟩) (H:=H2) hd (by decide) (by rw[k2 20 (by decide),k2 21 (by decide),k2 22 (by decide),g20,g21,g22];rfl);exact Sc [20,21,22] [25] q1 rfl q2 q3 q4 q5 q6 (by simp) (fun b hb=>by rw[I6]at hb;rw[hb];decide) rfl ⟨⟨_,rfl,k1⟩,trivial⟩
 ·trivial
def ABb (s z r w k v p:Int):Value:= .agg ⟨[int s,int z,int r,int w,int k,int v,int p]⟩
theorem AC4 (s z r w k v p:Int) (Q:Bm):CU X0 Cz [] Y4 [] 20 Q 3000 (st Y4 [ABb s z r w k v p] (hp []))=(
 let H:=((int s):Value)=(int s);let G:=((int k):Value)=(int k);let F:=((int v):Value)=(int v);let E:=((int z):Value)=(int z);let D:=((int w):Value)=(int w);let C:=((int p):Value)=(int p);let B:=((int 0):Value)=(int 0);let A:Value:= .pointer (some ⟨20,2,none⟩);let x:=((At 20):Value)=(At 20);let u:=IntKind.wrap .i64 (16+k)+v;let t:Value:= .agg ⟨[(int s),(int z),(int r),(int w),(int k),(int v),(int p)]⟩;let q:=((int r):Value)=(int r);let n:Value:= .pointer (some ⟨20,4,none⟩);let m:Value:= .pointer (some ⟨20,5,none⟩);let l:Value:= .pointer (some ⟨20,1,none⟩);let j:Value:= .pointer (some ⟨20,3,none⟩);let i:Value:= .pointer (some ⟨20,6,none⟩);let h:Value:= .agg ⟨[(int r),(int 2),(int 8)]⟩;let g:Value:= .agg ⟨[(int p),(int 1),(int 2)]⟩;let f:Value:= .agg ⟨[(int k),(int 1),(int 32)]⟩;let e:Value:= .agg ⟨[(int v),(int 0),(int 512)]⟩;let d:Prop:=Q (int 2) [];let c:=int (IntKind.wrap .i64 (r+2));let o:Value:= .agg ⟨[(int s),c,(int 32)]⟩;let b:=int (IntKind.wrap .i64 (16+IntKind.wrap .i64 u));let y:Value:= .agg ⟨[(int z),b,(int 8192)]⟩;let a:=(A:Value)=A;B/\((g:Value)=g)/\C/\((i:Value)=i)/\((t:Value)=t)/\D/\((j:Value)=j)/\E/\((l:Value)=l)/\((e:Value)=e)/\F/\((m:Value)=m)/\((f:Value)=f)/\G/\((n:Value)=n)/\((o:Value)=o)/\((c:Value)=c)/\q/\a/\H/\x/\((h:Value)=h)/\q/\a/\((y:Value)=y)/\((b:Value)=b)/\B/\((g:Value)=g)/\C/\((i:Value)=i)/\D/\((j:Value)=j)/\E/\((l:Value)=l)/\((e:Value)=e)/\F/\((m:Value)=m)/\((f:Value)=f)/\G/\((n:Value)=n)/\((o:Value)=o)/\((c:Value)=c)/\q/\a/\H/\x/\((h:Value)=h)/\q/\a/\(bif decide (r < 2)then d else(bif decide (r > 8)then d else(bif decide (s < IntKind.wrap .i64 (r+2))then d else(bif decide (s > 32)then d else(bif decide (k < 1)then d else(bif decide (k > 32)then d else(bif decide (v < 0)then d else(bif decide (v > 512)then d else(bif decide (z < IntKind.wrap .i64 (16+IntKind.wrap .i64 u))then d else(bif decide (z > 8192)then d else(bif decide (w < IntKind.wrap .i64 (2 * IntKind.wrap .i64 (IntKind.wrap .i64 u+16)))then d else(bif decide (w > 65536)then d else(bif decide (p < 1)then d else(bif decide (p > 2)then d else(Q (int 0) [])))))))))))))))):=by kernel_rfl
def zb (s z r w k v p:Int):Prop:=2<=r/\r<=8/\r+2<=s/\s<=32/\1<=k/\k<=32/\0<=v/\v<=512/\32+k+v<=z/\z<=8192/\2 * (32+k+v)<=w/\w<=65536/\1<=p/\p<=2
instance (s z r w k v p:Int):Decidable (zb s z r w k v p):=by unfold zb;exact inferInstance
def zU (s z r w k v p:Int):Int:=if zb s z r w k v p then 0 else 2
theorem zf {s z r w k v p:Int} (h:¬zb s z r w k v p):(int 2)=int (zU s z r w k v p):=by unfold zU;rw[E7 h]
theorem ACW (s z r w k v p:Int):CU X0 Cz [] Y4 [] 20 (fun v' _=>v'=int (zU s z r w k v p)) 3000 (st Y4 [ABb s z r w k v p] (hp [])):=by
 rw[AC4];(conv=>zeta)
 repeat (refine⟨rfl,?_⟩)
 refine AY (fun h=>zf (by unfold zb;omega)) fun h1=>?_
 refine AY (fun h=>zf (by unfold zb;omega)) fun h2=>?_
 rw[wrap64 (x:=r+2) (by omega) (by omega)];refine AY (fun h=>zf (by unfold zb;omega)) fun h3=>?_
 refine AY (fun h=>zf (by unfold zb;omega)) fun h4=>?_
 refine AY (fun h=>zf (by unfold zb;omega)) fun h5=>?_
 refine AY (fun h=>zf (by unfold zb;omega)) fun h6=>?_
 refine AY (fun h=>zf (by unfold zb;omega)) fun h7=>?_
 refine AY (fun h=>zf (by unfold zb;omega)) fun h8=>?_
 rw[wrap64 (x:=16+k) (by omega) (by omega),wrap64 (x:=16+k+v) (by omega) (by omega),wrap64 (x:=16+(16+k+v)) (by omega) (by omega)];refine AY (fun h=>zf (by unfold zb;omega)) fun h9=>?_
 refine AY (fun h=>zf (by unfold zb;omega)) fun h10=>?_
 rw[wrap64 (x:=16+k+v+16) (by omega) (by omega),wrap64 (x:=2 * (16+k+v+16)) (by omega) (by omega)];refine AY (fun h=>zf (by unfold zb;omega)) fun h11=>?_
 refine AY (fun h=>zf (by unfold zb;omega)) fun h12=>?_
 refine AY (fun h=>zf (by unfold zb;omega)) fun h13=>?_
 refine AY (fun h=>zf (by unfold zb;omega)) fun h14=>?_
 show int 0=_;unfold zU;rw[HI (by unfold zb;omega)]
def ACu (args:AL) (objs:BN):GT:=match args,objs with
 | [.agg ⟨[.int .i64 s,.int .i64 z,.int .i64 r,.int .i64 w,.int .i64 k,.int .i64 v,.int .i64 p]⟩],[]=> .ret ⟨int (zU s z r w k v p),[],[]⟩
 | _,_=> .fail
theorem ACg:CY Tryz.prog AI Y4 (Ai AI 20 [] ACu):=by
 refine BF (CO.nil _ _) (by kernel_rfl) (n:=BD Y4) (by kernel_rfl) (by kernel_rfl) fun argsc objs x hx hro=>?_
 clear hro;unfold ACu at hx;split at hx
 ·rename_i s z r w k v p;simp only[GT.run]at hx;cases hx
  refine⟨VC (by kernel_rfl),Ak.mono (AX.Fh (BK (CB _) (M:=20) (by kernel_rfl) (ACW s z r w k v p))) ?_⟩;rintro v' H rfl;exact⟨[],HM,fun b hb=>(by cases hb),rfl,rfl,fun j b o hj=>(by cases hj),fun j o hj=>(by cases hj)⟩
 ·cases hx
end Go.AD
namespace Go.Proofs
open Go.Shelf
def Tryz.Ub:Go.Shelf.Ren:=⟨fun | 137=>194 | 217=>199 | 266=>200 | n=>n,fun | 9=>9 | 5=>5 | 3=>3 | n=>n,fun | n=>n⟩
theorem Tryz.jq:Go.Proofs.Lays.n137 Tryz.prog Tryz.Ub:={
 mixed:=by kernel_rfl
 f137:=Tryz.func194.trans (congrArg some (by kernel_rfl))
 f217:=Tryz.func199.trans (congrArg some (by kernel_rfl))
 f266:=Tryz.func200.trans (congrArg some (by kernel_rfl))
 t3:=Tryz.underlying3
 a3:=Tryz.isAgg3
 z3:=Tryz.sizeOf3
 v3:=Tryz.zeroValue3
 t5:=Tryz.underlying5
 a5:=Tryz.isAgg5
 z5:=Tryz.sizeOf5
 v5:=Tryz.zeroValue5
 t9:=Tryz.underlying9
 a9:=Tryz.isAgg9
 z9:=Tryz.sizeOf9
 v9:=Tryz.zeroValue9 }
end Go.Proofs
namespace Go.AD
open Go.Proofs
def vi (n:Nat):Value:= .int .i64 (.ofNat n)
def vu (n:Nat):Value:= .int .u64 (.ofNat n)
def vy (n:Nat):Value:= .int .u8 (.ofNat n)
def vT:Value:= .bool true
def vF:Value:= .bool false
def vN:Value:= .slice none 0 0
def vs (b n c:Nat):Value:=sl b 0 n (18446744073709551616+c)
def vb (l:AW):Value:= .string (yv l)
def pq (f:FuncId) (l:AW):Code:=A9 Tryz.prog f l
end Go.AD
