/-
  Part of the proof: the machine that runs a program by fixed orders, and that each of its runs is a run of the model; or a run of it in parts. No conditions.
-/
import Derived.Test.YtfnfimeefeigdaaGreatDoorInc
noncomputable section
set_option maxRecDepth 1000000
namespace Go.AD
open Go.Proofs
structure qP (t m r y a b:Nat) (x:Cm) (H:AA):Prop where
 nd:[t,m,r,y,a,b].Nodup
 g0:H.get t=some (.cells [At m,Ao r x.AR.length] 0 false)
 g1:H.get m=some (.cells [.bool true,Ao y x.keys.length] 0 false)
 g2:H.get r=some (.vec [.tok] (GL a x.AR) false)
 g3:H.get y=some (.vec EV (Df b x.keys) false)
 g4:H.get a=some (.abs (.mem Ah (x.AR.map some)) false)
 g5:H.get b=some (.abs (.mem Ah (DY x.keys)) false)
theorem gI {base:Env} {W0 W:World} {μ:Ae} {H:AA} (h:AJ base W0 μ H W) {t m r y a b:Nat} {x:Cm} (hI:qP t m r y a b x H) (hd:∀z∈[t,m,r,y,a,b],∃T,μ z=some T):AJ base W0 μ (Le (.idx x) [t,m,r,y,a,b] H) W:=by
 have hS:=E2 (s:= .idx x) (H:=H) hI.nd;refine(h.shut (Bx.idx x) hI.nd rfl (by simp) hd (fun i z o hz ho=>?_) hS (fun o T ho=>by cases ho;exact id)).1
 match i,hz,ho with
 | 0,hz,ho=>cases hz;cases ho;exact⟨_,hI.g0,rfl,rfl,rfl⟩
 | 1,hz,ho=>cases hz;cases ho;exact⟨_,hI.g1,rfl,rfl,rfl⟩
 | 2,hz,ho=>cases hz;cases ho;exact⟨_,hI.g2,rfl,rfl,OV (by rfl) _ _⟩
 | 3,hz,ho=>cases hz;cases ho;exact⟨_,hI.g3,rfl,rfl,Nv (by rfl) _ _⟩
 | 4,hz,ho=>cases hz;cases ho;exact⟨_,hI.g4,rfl,rfl,rfl⟩
 | 5,hz,ho=>cases hz;cases ho;exact⟨_,hI.g5,rfl,rfl,rfl⟩
 | i+6,hz,ho=>cases hz
def aN (n:Nat):Cm:=⟨[],List.replicate n []⟩
def Ix (n:Nat) (H:AA):AA:=(H.put 20 (.vec [.tok] (List.replicate n (Value.slice none 0 0)) false)).put 22 (.cells [At 21,Ao 20 n] 0 false)
def Io (n:Nat) (H:AA):AA:=((Ix n H).FN EV).put 21 (.cells [.bool true,Ao (Ix n H).Cx 0] 0 false)
def P6 (n:Nat) (H:AA):AA:=((Io n H).alloc (.abs (.mem Ah (List.replicate n (some []))) false)).put 20 (.vec [.tok] (GL (Io n H).next (List.replicate n [])) false)
def Vt (n:Nat) (H:AA):AA:=(P6 n H).alloc (.abs (.mem Ah (List.replicate 0 (some []))) false)
def uQ (n:Nat) (H:AA):AW:=[22,21,20,(Ix n H).Cx,(Io n H).next,(P6 n H).next]
def xE (n:Nat) (H:AA):AA:=Le (.idx (aN n)) (uQ n H) (Vt n H)
theorem Zr (n:Nat) (H:AA):(Io n H).next=(Ix n H).Cx+1/\(P6 n H).next=(Io n H).next+1/\100<=(Ix n H).Cx/\(Ix n H).next<=(Ix n H).Cx:=⟨rfl,rfl,AA.O4 _,Nat.le_max_left _ _⟩
theorem U8 (n:Nat) (H:AA):(uQ n H).Nodup:=by
 obtain⟨h1,h2,h3,_⟩:=Zr n H;unfold uQ;simp only[lW,Ul,bG,vK,AAq,dG,iy];refine⟨?_,?_,?_,?_,by omega,id⟩
 all_goals omega
theorem mK {base:Env} {W0 W:World} {μ:Ae} {H:AA} {n:Nat} (hn:1<=n) (hn2:n<=32) (hH:AJ base W0 μ H W) (hm:∃T,μ 22=some T) (g20:H.get 20=some (.cells (List.replicate n (.slice none 0 0)) 1 false)) (g21:H.get 21=some (.cells [.bool true,.slice none 0 0] 0 false)) (g22:H.get 22=some (.cells [At 21,.slice (some ⟨20,0,none⟩) n n] 0 false)):
 ∃μ2,μ.le μ2/\AJ base W0 μ2 (xE n H) W:=by
 obtain⟨e1,e2,e3,e4⟩:=Zr n H;have l20:=hH.lt g20;have l22:=hH.lt g22;have m21:∃T,μ 21=some T:=JW.bN hH (rs:=[22]) (fun r hr=>by simp at hr;subst hr;exact hm) (.next (.here (by simp)) g22 (List.mem_flatMap.2 ⟨At 21,by simp,by show 21∈[21];simp⟩))
 have m20:∃T,μ 20=some T:=JW.bN hH (rs:=[22]) (fun r hr=>by simp at hr;subst hr;exact hm) (.next (.here (by simp)) g22 (List.mem_flatMap.2 ⟨.slice (some ⟨20,0,none⟩) n n,by simp,by show 20∈[20];simp⟩))
 have k1:=hH.JF (b:=20) (k:=[.tok]) (l:=List.replicate n (Value.slice none 0 0)) (ro:=false) (by rw[D9];exact g20);have k2:=k1.ke (b:=22) (n:=20) (len:=n) (cap:=n) (e:=0) (k:=[.tok]) (l:=List.replicate n (Value.slice none 0 0)) (ro:=false) (ro2:=false) (pre:=[At 21]) (post:=[]) (by rw[AA.AU,JT (by decide)];exact g22) (by rw[AA.AU,MB rfl]) (by omega) (GO _) (by rw[YC];exact GO _) (by omega);rw[Dh]at k2;have k2:AJ base W0 μ (Ix n H) W:=k2;have p21:(Ix n H).get 21=some (.cells [.bool true,.slice none 0 0] 0 false):=by
  unfold Ix;rw[AA.AU,JT (by decide),AA.AU,JT (by decide)];exact g21
 have p20:(Ix n H).get 20=some (.vec [.tok] (List.replicate n (Value.slice none 0 0)) false):=by
  unfold Ix;rw[AA.AU,JT (by decide),AA.AU,MB rfl]
 have p22:(Ix n H).get 22=some (.cells [At 21,Ao 20 n] 0 false):=by
  unfold Ix;rw[AA.AU,MB rfl]
 obtain⟨ν1,u1,k3⟩:=k2.lZ (c:=20) (k:=EV) (b:=21) (e:=0) (ro:=false) (pre:=[.bool true]) (post:=[]) m20 p21 (by decide);rw[Dh]at k3;have k3:AJ base W0 ν1 (Io n H) W:=k3;have q21:(Io n H).get 21=some (.cells [.bool true,Ao (Ix n H).Cx 0] 0 false):=by
  unfold Io;rw[AA.AU,MB rfl]
 have qo:∀z,z≠21->z≠(Ix n H).Cx->(Io n H).get z=(Ix n H).get z:=fun z z1 z2=>by
  unfold Io;rw[AA.AU,JT z1,AA.KH,JT z2]
 have qy:(Io n H).get (Ix n H).Cx=some (.vec EV [] false):=by
  unfold Io;rw[AA.AU,JT (by omega),AA.KH,MB rfl]
 obtain⟨T,hT⟩:=m20;have k4:=k3.qa Ah n (by decide) (u1 20 T hT);generalize hT2:(⟨T.c,0,0,CH (List.replicate n ⟨T.c,0,0,Ah.length⟩)⟩:Bc)=T2 at k4;have u2:ν1.le (ν1.ext (Io n H).next T2):=Ae.Cc T2 (k3.fresh _ (GO _)).2;have k5:=k4.NV (b:=20) (k:=[.tok]) (x:=List.replicate n (Value.slice none 0 0)) (x':=GL (Io n H).next (List.replicate n [])) (ro:=false) (by rw[AA.AM,JT (by omega),qo 20 (by decide) (by omega)];exact p20) (by rw[DS,YC,YC]) (fun w hw=>by
  rw[D9]at hw ⊢;refine Am.ah _ _ _ (by rw[DS,YC,YC]) (fun i v v' h1 h2 u hu=>?_) hw;rw[M7,xa]at h2;rw[xa]at h1;split at h1
  ·rename_i hi;rw[MB hi]at h2;cases h1;cases h2;cases hu
   exact .F9 _ i cU _ none (Ae.Af _ _ _) (.inr ⟨by rw[Dh];exact GO _,by rw[Dh];exact me _⟩)
  ·cases h1)
 have k5:AJ base W0 _ (P6 n H) W:=k5;have k6:=k5.qa Ah 0 (by decide) (u2 20 T (u1 20 T hT));generalize (⟨T.c,0,0,CH (List.replicate 0 ⟨T.c,0,0,Ah.length⟩)⟩:Bc)=T3 at k6;have u3:(ν1.ext (Io n H).next T2).le ((ν1.ext (Io n H).next T2).ext (P6 n H).next T3):=Ae.Cc T3 (k5.fresh _ (GO _)).2;have k6:AJ base W0 _ (Vt n H) W:=k6;have r4:∀z,z≠20->z < (Io n H).next->(Vt n H).get z=(Io n H).get z:=fun z z1 z2=>by
  unfold Vt;rw[AA.AM,JT (by omega)];unfold P6;rw[AA.AU,JT z1,AA.AM,JT (by omega)]
 have hy:∃T,ν1 (Ix n H).Cx=some T:=JW.bN k3 (rs:=[21]) (fun r hr=>by simp at hr;subst hr;obtain⟨X,hX⟩:=m21;exact⟨X,u1 _ _ hX⟩) (.next (.here (by simp)) q21 (List.mem_flatMap.2 ⟨Ao (Ix n H).Cx 0,by simp,Kz⟩))
 have hI:qP 22 21 20 (Ix n H).Cx (Io n H).next (P6 n H).next (aN n) (Vt n H):=by
  refine⟨U8 n H,?_,?_,?_,?_,?_,?_⟩
  ·rw[r4 22 (by decide) (by omega),qo 22 (by decide) (by omega),p22];unfold aN;rw[YC]
  ·rw[r4 21 (by decide) (by omega),q21];rfl
  ·unfold Vt;rw[AA.AM,JT (by omega)];unfold P6;rw[AA.AU,MB rfl];rfl
  ·rw[r4 _ (by omega) (by omega),qy];rfl
  ·unfold Vt;rw[AA.AM,JT (by omega)];unfold P6;rw[AA.AU,JT (by omega),AA.AM,MB rfl];unfold aN;rw[List.map_replicate]
  ·unfold Vt;rw[AA.AM,MB rfl];rfl
 refine⟨_,Ae.le_trans u1 (Ae.le_trans u2 u3),gI k6 hI fun z hz=>?_⟩;have up:∀z,(∃T,ν1 z=some T)->∃T,((ν1.ext (Io n H).next T2).ext (P6 n H).next T3) z=some T:=fun z ⟨X,hX⟩=>⟨X,u3 _ _ (u2 _ _ hX)⟩
 have up0:∀z,(∃T,μ z=some T)->∃T,((ν1.ext (Io n H).next T2).ext (P6 n H).next T3) z=some T:=fun z ⟨X,hX⟩=>up z ⟨X,u1 _ _ hX⟩
 simp only[Ul,bG,vK]at hz;rcases hz with rfl | rfl | rfl | rfl | rfl | rfl
 ·exact up0 _ hm
 ·exact up0 _ m21
 ·exact up0 _ ⟨T,hT⟩
 ·exact up _ hy
 ·exact⟨T2,u3 _ _ (Ae.Af _ _ _)⟩
 ·exact⟨T3,Ae.Af _ _ _⟩
def yP (args:AL) (objs:BN):GT:=match args,objs with
 | [.int .i64 n],[]=> .ask (1<=n/\n<=32) (.ret ⟨.tuple ⟨[At 20,int 0]⟩,[],[.abs (.pack (.idx (aN n.toNat))) false]⟩)
 | _,_=> .fail
theorem gu:CY Tryz.prog AI E0 (Ai AI 20 [] yP):=by
 refine BF dX.all (by kernel_rfl) (n:=BD E0) (by kernel_rfl) (by kernel_rfl) fun argsc objs x hx hro=>?_
 clear hro;unfold yP at hx;split at hx
 ·rename_i n;simp only[GT.run]at hx;split at hx
  ·rename_i hp0;cases hx
   obtain⟨m,rfl⟩:∃m:Nat,n=(m:Int):=⟨n.toNat,by omega⟩
   rw[MG];have hm1:1<=m:=by omega
   have hm2:m<=32:=by omega
   refine⟨BE (by kernel_rfl),Ak.tell (AX.Fh (BK dX.pf (M:=20) (by kernel_rfl) (ri (fun v os=>v= .tuple ⟨[At 22,int 0]⟩/\os=[some (.cells (List.replicate m (.slice none 0 0)) 1 false),some (.cells [.bool true,.slice none 0 0] 0 false),some (.cells [At 21,.slice (some ⟨20,0,none⟩) m m] 0 false),some (.cells [At 21,.slice (some ⟨20,0,none⟩) m m] 0 false)]) m hm1 hm2 ⟨rfl,rfl⟩))) ?_⟩;rintro v H ⟨rfl,hos⟩;have hos:[20,21,22,22].map H.get=_:=hos;simp only[Sm,o6,Nh,iy]at hos;obtain⟨g20,g21,g22,_⟩:=hos;refine⟨.tuple ⟨[At 22,int 0]⟩,xE m H,fun base W0 μ W v' _ hv hH=>?_,?_⟩
   ·have hm:∃T,μ 22=some T:=FJ (Am.cons hv .nil) 22 (by show 22∈[22];simp)
    obtain⟨μ2,r1,r2⟩:=mK hm1 hm2 hH hm g20 g21 g22;exact⟨μ2,r1,r2,hv.mono r1⟩
   ·refine⟨[22],by simp,fun b hb=>?_,rfl,rfl,fun j b o hj ho=>?_,fun j o hj=>(by cases hj)⟩
    ·simp at hb;subst hb;decide
    ·match j,hj,ho with
     | 0,hj,ho=>
      cases hj;cases ho
      exact⟨_,rfl,(E2 (U8 m H)).root 22 rfl⟩
     | j+1,hj,_=>cases hj
  ·cases hx
 ·cases hx
theorem IU {N:Nat} {q q1:Gk} (h:∀s rest os x,(q1 s rest os).gt.run=some x->(q s rest os).gt.run=some x):∀a o x,(CX N q1 a o).run=some x->(CX N q a o).run=some x:=by
 intro a o x hx;unfold CX at hx ⊢;split at hx
 ·rename_i b rest s ro os;cases hb:Nat.beq b N
  ·simp only[hb,EB,GT.run]at hx;cases hx
  ·simp only[hb,C8]at hx ⊢;exact h _ _ _ _ hx
 ·cases hx
def A8 (d:Ab) (i:Int):Int:=(CV d i).b.length
def oa:Gk:=fun p rest os=>match p,rest,os with
 | .dev d,[.int .i64 i],[]=> .ask (d.down=false/\Ba d.BB i=false) (.ret ⟨DE (A8 d i) 0,.dev d,[]⟩)
 | _,_,_=> .fail
def fR:Gk:=fun p rest os=>match p,rest,os with
 | .dev d,[.int .i64 i,.int .i64 a,.int .i64 k],[]=> .ask (Kj d i a k=true) (.ret ⟨.tuple ⟨[Ao 21 (Ed d i a k).length,int 0]⟩,.dev d,[.vec kB (Ed d i a k) false]⟩)
 | _,_,_=> .fail
def uG:Gk:=fun p rest os=>match p,rest,os with
 | .idx x,[.agg ⟨[.int .i64 q,.string a,.bool d,.int .i64 s,.int .i64 o,.int .i64 z]⟩],[]=> .ask ((s=(s.toNat:Int)/\Lr x q a d s.toNat o z)/\El x q a d s.toNat o z=0) (.ret ⟨int 0,.idx (JO x q a d s.toNat o z),[]⟩)
 | _,_,_=> .fail
theorem Ws:∀a o x,(CX 20 oa a o).run=some x->(CX 20 (HK fun m=>m.b.length) a o).run=some x:=IU fun s rest os x hx=>by
 unfold oa at hx;unfold HK;split at hx
 ·rename_i d i;simp only[PT.gt,GT.run]at hx ⊢;split at hx
  ·rename_i h;rw[Nj h.1 h.2];exact hx
  ·cases hx
 ·simp only[PT.gt,GT.run]at hx;cases hx
theorem bU:∀a o x,(CX 20 fR a o).run=some x->(CX 20 M4 a o).run=some x:=IU fun s rest os x hx=>by
 unfold fR at hx;unfold M4;split at hx
 ·rename_i d i a k;simp only[PT.gt,GT.run]at hx ⊢;split at hx
  ·rename_i h;rw[h];exact hx
  ·cases hx
 ·simp only[PT.gt,GT.run]at hx;cases hx
theorem jC:∀a o x,(CX 20 uG a o).run=some x->(s7 a o).run=some x:=IU fun s rest os x hx=>by
 unfold uG at hx;unfold Yl;split at hx
 ·rename_i y q a d s o z;simp only[PT.gt,GT.run]at hx ⊢;split at hx
  ·rename_i h;rw[MB ⟨h.1,trivial⟩,h.2];exact hx
  ·cases hx
 ·simp only[PT.gt,GT.run]at hx;cases hx
end Go.AD
