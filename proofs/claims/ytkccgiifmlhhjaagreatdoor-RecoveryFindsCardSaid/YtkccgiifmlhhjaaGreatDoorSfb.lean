/-
  Part of the proof: the machine that runs a program by fixed orders, and that each of its runs is a run of the model; or a run of it in parts. No conditions.
-/
import Derived.Test.YtkccgiifmlhhjaaGreatDoorInc
import Derived.Test.YtkccgiifmlhhjaaGreatDoorIdTell3
noncomputable section
set_option maxRecDepth 1000000
namespace Go.AD
open Go.Proofs
structure qP (t m r y a b:Nat) (x:Cm) (H:AA):Prop where
 nd:[t,m,r,y,a,b].Nodup
 g0:H.get t=some (.cells [At m,Ao r x.AR.length] 0 false)
 g1:H.get m=some (.cells [.bool true,Ao y x.keys.length] 0 false)
 g2:H.get r=some (.vec [.tok] (GL a x.AR) false)
 g3:H.get y=some (.vec EV (Df b x.keys) false)
 g4:H.get a=some (.abs (.mem Ah (x.AR.map some)) false)
 g5:H.get b=some (.abs (.mem Ah (DY x.keys)) false)
theorem gI {base:Env} {W0 W:World} {μ:Ae} {H:AA} (h:AJ base W0 μ H W) {t m r y a b:Nat} {x:Cm} (hI:qP t m r y a b x H) (hd:∀z∈[t,m,r,y,a,b],∃T,μ z=some T):AJ base W0 μ (Le (.idx x) [t,m,r,y,a,b] H) W:=by
 have hS:=E2 (s:= .idx x) (H:=H) hI.nd;refine(h.shut (Bx.idx x) hI.nd rfl (by simp) hd (fun i z o hz ho=>?_) hS (fun o T ho=>by cases ho;exact id)).1
 match i,hz,ho with
 | 0,hz,ho=>cases hz;cases ho;exact⟨_,hI.g0,rfl,rfl,rfl⟩
 | 1,hz,ho=>cases hz;cases ho;exact⟨_,hI.g1,rfl,rfl,rfl⟩
 | 2,hz,ho=>cases hz;cases ho;exact⟨_,hI.g2,rfl,rfl,OV (by rfl) _ _⟩
 | 3,hz,ho=>cases hz;cases ho;exact⟨_,hI.g3,rfl,rfl,Nv (by rfl) _ _⟩
 | 4,hz,ho=>cases hz;cases ho;exact⟨_,hI.g4,rfl,rfl,rfl⟩
 | 5,hz,ho=>cases hz;cases ho;exact⟨_,hI.g5,rfl,rfl,rfl⟩
 | i+6,hz,ho=>cases hz
def aN (n:Nat):Cm:=⟨[],List.replicate n []⟩
def Ix (n:Nat) (H:AA):AA:=(H.put 20 (.vec [.tok] (List.replicate n (Value.slice none 0 0)) false)).put 22 (.cells [At 21,Ao 20 n] 0 false)
def Io (n:Nat) (H:AA):AA:=((Ix n H).FN EV).put 21 (.cells [.bool true,Ao (Ix n H).Cx 0] 0 false)
def P6 (n:Nat) (H:AA):AA:=((Io n H).alloc (.abs (.mem Ah (List.replicate n (some []))) false)).put 20 (.vec [.tok] (GL (Io n H).next (List.replicate n [])) false)
def Vt (n:Nat) (H:AA):AA:=(P6 n H).alloc (.abs (.mem Ah (List.replicate 0 (some []))) false)
def uQ (n:Nat) (H:AA):AW:=[22,21,20,(Ix n H).Cx,(Io n H).next,(P6 n H).next]
def xE (n:Nat) (H:AA):AA:=Le (.idx (aN n)) (uQ n H) (Vt n H)
theorem Zr (n:Nat) (H:AA):(Io n H).next=(Ix n H).Cx+1/\(P6 n H).next=(Io n H).next+1/\100<=(Ix n H).Cx/\(Ix n H).next<=(Ix n H).Cx:=⟨rfl,rfl,AA.O4 _,Nat.le_max_left _ _⟩
theorem U8 (n:Nat) (H:AA):(uQ n H).Nodup:=by
 obtain⟨h1,h2,h3,_⟩:=Zr n H;unfold uQ;simp only[fg,WL,Yk,lG,ABw,Zk,dM];refine⟨?_,?_,?_,?_,by omega,id⟩
 all_goals omega
theorem mK {base:Env} {W0 W:World} {μ:Ae} {H:AA} {n:Nat} (hn:1<=n) (hn2:n<=32) (hH:AJ base W0 μ H W) (hm:∃T,μ 22=some T) (g20:H.get 20=some (.cells (List.replicate n (.slice none 0 0)) 1 false)) (g21:H.get 21=some (.cells [.bool true,.slice none 0 0] 0 false)) (g22:H.get 22=some (.cells [At 21,.slice (some ⟨20,0,none⟩) n n] 0 false)):
 ∃μ2,μ.le μ2/\AJ base W0 μ2 (xE n H) W:=by
 obtain⟨e1,e2,e3,e4⟩:=Zr n H;have l20:=hH.lt g20;have l22:=hH.lt g22;have m21:∃T,μ 21=some T:=JW.bN hH (rs:=[22]) (fun r hr=>by simp at hr;subst hr;exact hm) (.next (.here (by simp)) g22 (List.mem_flatMap.2 ⟨At 21,by simp,by show 21∈[21];simp⟩))
 have m20:∃T,μ 20=some T:=JW.bN hH (rs:=[22]) (fun r hr=>by simp at hr;subst hr;exact hm) (.next (.here (by simp)) g22 (List.mem_flatMap.2 ⟨.slice (some ⟨20,0,none⟩) n n,by simp,by show 20∈[20];simp⟩))
 have k1:=hH.JF (b:=20) (k:=[.tok]) (l:=List.replicate n (Value.slice none 0 0)) (ro:=false) (by rw[D9];exact g20);have k2:=k1.ke (b:=22) (n:=20) (len:=n) (cap:=n) (e:=0) (k:=[.tok]) (l:=List.replicate n (Value.slice none 0 0)) (ro:=false) (ro2:=false) (pre:=[At 21]) (post:=[]) (by rw[AA.AU,E7 (by decide)];exact g22) (by rw[AA.AU,HI rfl]) (by omega) (CC _) (by rw[Xu];exact CC _) (by omega);rw[Dh]at k2;have k2:AJ base W0 μ (Ix n H) W:=k2;have p21:(Ix n H).get 21=some (.cells [.bool true,.slice none 0 0] 0 false):=by
  unfold Ix;rw[AA.AU,E7 (by decide),AA.AU,E7 (by decide)];exact g21
 have p20:(Ix n H).get 20=some (.vec [.tok] (List.replicate n (Value.slice none 0 0)) false):=by
  unfold Ix;rw[AA.AU,E7 (by decide),AA.AU,HI rfl]
 have p22:(Ix n H).get 22=some (.cells [At 21,Ao 20 n] 0 false):=by
  unfold Ix;rw[AA.AU,HI rfl]
 obtain⟨ν1,u1,k3⟩:=k2.lZ (c:=20) (k:=EV) (b:=21) (e:=0) (ro:=false) (pre:=[.bool true]) (post:=[]) m20 p21 (by decide);rw[Dh]at k3;have k3:AJ base W0 ν1 (Io n H) W:=k3;have q21:(Io n H).get 21=some (.cells [.bool true,Ao (Ix n H).Cx 0] 0 false):=by
  unfold Io;rw[AA.AU,HI rfl]
 have qo:∀z,z≠21->z≠(Ix n H).Cx->(Io n H).get z=(Ix n H).get z:=fun z z1 z2=>by
  unfold Io;rw[AA.AU,E7 z1,AA.KH,E7 z2]
 have qy:(Io n H).get (Ix n H).Cx=some (.vec EV [] false):=by
  unfold Io;rw[AA.AU,E7 (by omega),AA.KH,HI rfl]
 obtain⟨T,hT⟩:=m20;have k4:=k3.qa Ah n (by decide) (u1 20 T hT);generalize hT2:(⟨T.c,0,0,CH (List.replicate n ⟨T.c,0,0,Ah.length⟩)⟩:Bc)=T2 at k4;have u2:ν1.le (ν1.ext (Io n H).next T2):=Ae.Cc T2 (k3.fresh _ (CC _)).2;have k5:=k4.NV (b:=20) (k:=[.tok]) (x:=List.replicate n (Value.slice none 0 0)) (x':=GL (Io n H).next (List.replicate n [])) (ro:=false) (by rw[AA.AM,E7 (by omega),qo 20 (by decide) (by omega)];exact p20) (by rw[DS,Xu,Xu]) (fun w hw=>by
  rw[D9]at hw ⊢;refine Am.ah _ _ _ (by rw[DS,Xu,Xu]) (fun i v v' h1 h2 u hu=>?_) hw;rw[M7,pG]at h2;rw[pG]at h1;split at h1
  ·rename_i hi;rw[HI hi]at h2;cases h1;cases h2;cases hu
   exact .F9 _ i cU _ none (Ae.Af _ _ _) (.inr ⟨by rw[Dh];exact CC _,by rw[Dh];exact dD _⟩)
  ·cases h1)
 have k5:AJ base W0 _ (P6 n H) W:=k5;have k6:=k5.qa Ah 0 (by decide) (u2 20 T (u1 20 T hT));generalize (⟨T.c,0,0,CH (List.replicate 0 ⟨T.c,0,0,Ah.length⟩)⟩:Bc)=T3 at k6;have u3:(ν1.ext (Io n H).next T2).le ((ν1.ext (Io n H).next T2).ext (P6 n H).next T3):=Ae.Cc T3 (k5.fresh _ (CC _)).2;have k6:AJ base W0 _ (Vt n H) W:=k6;have r4:∀z,z≠20->z < (Io n H).next->(Vt n H).get z=(Io n H).get z:=fun z z1 z2=>by
  unfold Vt;rw[AA.AM,E7 (by omega)];unfold P6;rw[AA.AU,E7 z1,AA.AM,E7 (by omega)]
 have hy:∃T,ν1 (Ix n H).Cx=some T:=JW.bN k3 (rs:=[21]) (fun r hr=>by simp at hr;subst hr;obtain⟨X,hX⟩:=m21;exact⟨X,u1 _ _ hX⟩) (.next (.here (by simp)) q21 (List.mem_flatMap.2 ⟨Ao (Ix n H).Cx 0,by simp,Kz⟩))
 have hI:qP 22 21 20 (Ix n H).Cx (Io n H).next (P6 n H).next (aN n) (Vt n H):=by
  refine⟨U8 n H,?_,?_,?_,?_,?_,?_⟩
  ·rw[r4 22 (by decide) (by omega),qo 22 (by decide) (by omega),p22];unfold aN;rw[Xu]
  ·rw[r4 21 (by decide) (by omega),q21];rfl
  ·unfold Vt;rw[AA.AM,E7 (by omega)];unfold P6;rw[AA.AU,HI rfl];rfl
  ·rw[r4 _ (by omega) (by omega),qy];rfl
  ·unfold Vt;rw[AA.AM,E7 (by omega)];unfold P6;rw[AA.AU,E7 (by omega),AA.AM,HI rfl];unfold aN;rw[List.map_replicate]
  ·unfold Vt;rw[AA.AM,HI rfl];rfl
 refine⟨_,Ae.le_trans u1 (Ae.le_trans u2 u3),gI k6 hI fun z hz=>?_⟩;have up:∀z,(∃T,ν1 z=some T)->∃T,((ν1.ext (Io n H).next T2).ext (P6 n H).next T3) z=some T:=fun z ⟨X,hX⟩=>⟨X,u3 _ _ (u2 _ _ hX)⟩
 have up0:∀z,(∃T,μ z=some T)->∃T,((ν1.ext (Io n H).next T2).ext (P6 n H).next T3) z=some T:=fun z ⟨X,hX⟩=>up z ⟨X,u1 _ _ hX⟩
 simp only[WL,Yk,lG]at hz;rcases hz with rfl | rfl | rfl | rfl | rfl | rfl
 ·exact up0 _ hm
 ·exact up0 _ m21
 ·exact up0 _ ⟨T,hT⟩
 ·exact up _ hy
 ·exact⟨T2,u3 _ _ (Ae.Af _ _ _)⟩
 ·exact⟨T3,Ae.Af _ _ _⟩
def yP (args:AL) (objs:BN):GT:=match args,objs with
 | [.int .i64 n],[]=> .ask (1<=n/\n<=32) (.ret ⟨.tuple ⟨[At 20,int 0]⟩,[],[.abs (.pack (.idx (aN n.toNat))) false]⟩)
 | _,_=> .fail
theorem gu:CY Tryz.prog AI E0 (Ai AI 20 [] yP):=by
 refine BF dX.all (by kernel_rfl) (n:=BD E0) (by kernel_rfl) (by kernel_rfl) fun argsc objs x hx hro=>?_
 clear hro;unfold yP at hx;split at hx
 ·rename_i n;simp only[GT.run]at hx;split at hx
  ·rename_i hp0;cases hx
   obtain⟨m,rfl⟩:∃m:Nat,n=(m:Int):=⟨n.toNat,by omega⟩
   rw[HR];have hm1:1<=m:=by omega
   have hm2:m<=32:=by omega
   refine⟨VC (by kernel_rfl),Ak.tell (AX.Fh (BK dX.pf (M:=20) (by kernel_rfl) (ri (fun v os=>v= .tuple ⟨[At 22,int 0]⟩/\os=[some (.cells (List.replicate m (.slice none 0 0)) 1 false),some (.cells [.bool true,.slice none 0 0] 0 false),some (.cells [At 21,.slice (some ⟨20,0,none⟩) m m] 0 false),some (.cells [At 21,.slice (some ⟨20,0,none⟩) m m] 0 false)]) m hm1 hm2 ⟨rfl,rfl⟩))) ?_⟩;rintro v H ⟨rfl,hos⟩;have hos:[20,21,22,22].map H.get=_:=hos;simp only[X5,iR,JB,dM]at hos;obtain⟨g20,g21,g22,_⟩:=hos;refine⟨.tuple ⟨[At 22,int 0]⟩,xE m H,fun base W0 μ W v' _ hv hH=>?_,?_⟩
   ·have hm:∃T,μ 22=some T:=FJ (Am.cons hv .nil) 22 (by show 22∈[22];simp)
    obtain⟨μ2,r1,r2⟩:=mK hm1 hm2 hH hm g20 g21 g22;exact⟨μ2,r1,r2,hv.mono r1⟩
   ·refine⟨[22],by simp,fun b hb=>?_,rfl,rfl,fun j b o hj ho=>?_,fun j o hj=>(by cases hj)⟩
    ·simp at hb;subst hb;decide
    ·match j,hj,ho with
     | 0,hj,ho=>
      cases hj;cases ho
      exact⟨_,rfl,(E2 (U8 m H)).root 22 rfl⟩
     | j+1,hj,_=>cases hj
  ·cases hx
 ·cases hx
theorem IU {N:Nat} {q q1:Gk} (h:∀s rest os x,(q1 s rest os).gt.run=some x->(q s rest os).gt.run=some x):∀a o x,(CX N q1 a o).run=some x->(CX N q a o).run=some x:=by
 intro a o x hx;unfold CX at hx ⊢;split at hx
 ·rename_i b rest s ro os;cases hb:Nat.beq b N
  ·simp only[hb,NJ,GT.run]at hx;cases hx
  ·simp only[hb,Al]at hx ⊢;exact h _ _ _ _ hx
 ·cases hx
def A8 (d:Ab) (i:Int):Int:=(CV d i).b.length
def oa:Gk:=fun p rest os=>match p,rest,os with
 | .dev d,[.int .i64 i],[]=> .ask (d.down=false/\Ba d.BB i=false) (.ret ⟨DE (A8 d i) 0,.dev d,[]⟩)
 | _,_,_=> .fail
def fR:Gk:=fun p rest os=>match p,rest,os with
 | .dev d,[.int .i64 i,.int .i64 a,.int .i64 k],[]=> .ask (Kj d i a k=true) (.ret ⟨.tuple ⟨[Ao 21 (Ed d i a k).length,int 0]⟩,.dev d,[.vec kB (Ed d i a k) false]⟩)
 | _,_,_=> .fail
def ax:Gk:=fun p rest os=>match p,rest,os with
 | .dev d,[],[]=> .ask (d.down=false) (.ret ⟨.bool false,.dev d,[]⟩)
 | _,_,_=> .fail
def Tx:Gk:=fun p rest os=>match p,rest,os with
 | .dev d,[],[]=> .ask (0 < d.AR) (.ret ⟨int d.AR,.dev d,[]⟩)
 | _,_,_=> .fail
def uG:Gk:=fun p rest os=>match p,rest,os with
 | .idx x,[.agg ⟨[.int .i64 q,.string a,.bool d,.int .i64 s,.int .i64 o,.int .i64 z]⟩],[]=> .ask ((s=(s.toNat:Int)/\Lr x q a d s.toNat o z)/\El x q a d s.toNat o z=0) (.ret ⟨int 0,.idx (JO x q a d s.toNat o z),[]⟩)
 | _,_,_=> .fail
theorem Ws:∀a o x,(CX 20 oa a o).run=some x->(CX 20 (HK fun m=>m.b.length) a o).run=some x:=IU fun s rest os x hx=>by
 unfold oa at hx;unfold HK;split at hx
 ·rename_i d i;simp only[PT.gt,GT.run]at hx ⊢;split at hx
  ·rename_i h;rw[Nj h.1 h.2];exact hx
  ·cases hx
 ·simp only[PT.gt,GT.run]at hx;cases hx
theorem bU:∀a o x,(CX 20 fR a o).run=some x->(CX 20 M4 a o).run=some x:=IU fun s rest os x hx=>by
 unfold fR at hx;unfold M4;split at hx
 ·rename_i d i a k;simp only[PT.gt,GT.run]at hx ⊢;split at hx
  ·rename_i h;rw[h];exact hx
  ·cases hx
 ·simp only[PT.gt,GT.run]at hx;cases hx
theorem Sy:∀a o x,(CX 20 ax a o).run=some x->(CX 20 (FT (fun d=> .bool d.down) id) a o).run=some x:=IU fun s rest os x hx=>by
 unfold ax at hx;unfold FT;split at hx
 ·rename_i d;simp only[PT.gt,GT.run]at hx ⊢;split at hx
  ·rename_i h;rw[h];exact hx
  ·cases hx
 ·simp only[PT.gt,GT.run]at hx;cases hx
theorem Q6:∀a o x,(CX 20 Tx a o).run=some x->(CX 20 (FT (fun d=>int d.AR) id) a o).run=some x:=IU fun s rest os x hx=>by
 unfold Tx at hx;unfold FT;split at hx
 ·rename_i d;simp only[PT.gt,GT.run]at hx ⊢;split at hx
  ·exact hx
  ·cases hx
 ·simp only[PT.gt,GT.run]at hx;cases hx
theorem jC:∀a o x,(CX 20 uG a o).run=some x->(s7 a o).run=some x:=IU fun s rest os x hx=>by
 unfold uG at hx;unfold Yl;split at hx
 ·rename_i y q a d s o z;simp only[PT.gt,GT.run]at hx ⊢;split at hx
  ·rename_i h;rw[HI ⟨h.1,trivial⟩,h.2];exact hx
  ·cases hx
 ·simp only[PT.gt,GT.run]at hx;cases hx
def pR:List GA:=[(DQ,Ai AI 20 [true] (CX 20 (HK fun m=>m.b.length)),Cs AI 20 [true] (CX 20 oa)),
 (Cb,Ai AI 20 [true] (CX 20 M4),Cs AI 20 [true] (CX 20 fR)),
 (Di,Ai AI 20 [true] (CX 20 (FT (fun d=> .bool d.down) id)),Cs AI 20 [true] (CX 20 ax)),
 (DT,Ai AI 20 [true] (CX 20 (FT (fun d=>int d.AR) id)),Cs AI 20 [true] (CX 20 Tx)),
 (AE,Ai AI 20 [true] s7,Cs AI 20 [true] (CX 20 uG)),GQ E0 [] yP,GQ Ay [] yW]
theorem YF:Ci pR:= .OG Sz Ws <| .OG YH bU <| .OG QK Sy <| .OG Ox Q6 <| .OG og jC <| .cons gu <| .cons rB .nil
abbrev Yr:Ctx:=Bp Tryz.prog AI (Cv pR)
def qZ:Stop:=⟨Aq,1,2,21,[20],[0,1,9,10]⟩
def cP:Stop:=⟨Ac,2,3,21,[20],[2,3,5,41,42,43]⟩
def wx:FV:=[(Aq,[0,1,9,10,30]),(Ac,[2,3,5])]
def wu:Tr Value:=EZ [(2,At 26),(3,At 24),(5,At 25)]
def x6 (b:Bool):AP:= .loop ⟨bif b then .busy else .ready,none,Ac,wu,BD Ac,#[30,31],A9 Tryz.prog Ac [1,1,1,1,0,1,0,0],A9 Tryz.prog Ac [1,1,1,1,0,1,0,1],22⟩
def pI (d:Ab) (x:Cm) (n i:Int):BT:=
 ⟨⟨Aq,EZ [(0,.func (.yield 23) ⟨[]⟩ ⟨[]⟩),(1,At 21),(9,int n),(10,int i)],BD Aq,[.code (A9 Tryz.prog Aq [1,0,0]),.inLoop (A9 Tryz.prog Aq [1,0,0]),.inBlock 0],[],false,.normal,none⟩,
  [⟨Ac,wu,BD Ac,[.inRangeFunc 23,.inBlock 0,.code (A9 Tryz.prog Ac [1,1,1,1,1])],[⟨.collected 22,⟨[]⟩⟩],false,.normal,none⟩],
  (((((((hp [.abs (.pack (.dev d)) false]).alloc (.cells [At 20] 0 false)).alloc (.deferred (some []))).alloc (x6 false)).alloc (.cells [int 0] 0 false)).alloc (.cells [At 27] 0 false)).alloc (.cells [.pointer none] 0 false)).alloc (.abs (.pack (.idx x)) false)⟩
def T8 (d:Ab) (i:Int):Aw:=GS (Ed d i 0 (A8 d i)) 0 (List.length (Ed d i 0 (A8 d i))) i (List.length (Ed d i 0 (A8 d i))) 0
def yf (x:Cm) (es:Aw) (j:Int):Cm:=JO x (DI es (0+j.toNat)).1 (DI es (0+j.toNat)).2.1 (DI es (0+j.toNat)).2.2.1 (DI es (0+j.toNat)).2.2.2.1.toNat (DI es (0+j.toNat)).2.2.2.2.1 (DI es (0+j.toNat)).2.2.2.2.2
def qE:Tr Value:=EZ [(2,At 21),(3,At 22),(5,At 23)]
def xO:AP:= .loop ⟨.busy,none,Ac,qE,BD Ac,#[30,31],A9 Tryz.prog Ac [1,1,1,1,0,1,0,0],A9 Tryz.prog Ac [1,1,1,1,0,1,0,1],27⟩
def uz (d:Ab) (x:Cm) (es:Aw) (m:Nat) (n i j:Int):BT:=
 ⟨⟨Ac,EZ [(2,At 21),(3,At 22),(5,At 23),(41,Ao 24 m),(42,int m),(43,int j)],BD Ac,[.code (A9 Tryz.prog Ac [1,1,1,1,0,1,0,1,0,1,1,1,0,0]),.inLoop (A9 Tryz.prog Ac [1,1,1,1,0,1,0,1,0,1,1,1,0,0]),.inBlock 2,.inBlock 1],[],false,.normal,some 25⟩,
  [⟨Aq,EZ [(0,.func (.yield 25) ⟨[]⟩ ⟨[]⟩),(1,At 26),(9,int n),(10,int i),(30,.bool false)],BD Aq,[GU (A9 Tryz.prog Aq [1,0,0,1,1,0,0,1,1,1,1,0]) 6,.code (A9 Tryz.prog Aq [1,0,0,1,1,0,0,1,1,1,1,1]),.inBlock 1,.code (A9 Tryz.prog Aq [1,0,0,1,1,1]),.inLoop (A9 Tryz.prog Aq [1,0,0]),.inBlock 0],[],false,.normal,none⟩,
   ⟨Ac,qE,BD Ac,[.inRangeFunc 25,.inBlock 0,.code (A9 Tryz.prog Ac [1,1,1,1,1])],[⟨.collected 27,⟨[]⟩⟩],false,.normal,none⟩],
  ((((((((hp [.abs (.pack (.dev d)) false]).alloc (.cells [.pointer none] 0 false)).alloc (.cells [int 0] 0 false)).alloc (.cells [At 28] 0 false)).alloc (.vec Ah es false)).alloc xO).alloc (.cells [At 20] 0 false)).alloc (.deferred (some []))).alloc (.abs (.pack (.idx x)) false)⟩
theorem sN (d:Ab) (Q:Bm) (R:Bz):Iy Yr (Ax pR) [] Ac [20] qZ wx Q R 900 (st Ac [At 20] (hp [.abs (.pack (.dev d)) false]))=(
 let a:=Ab.AR d;(0 < Ab.AR d)/\(bif Ab.AR d==0 then(Q (.tuple ⟨[(.pointer none),(int 1)]⟩) [some (.abs (Ct.pack (PL.nx { v:=int a,nx:=Pk.dev d,news:=[] })) false)])else((d.5)=(false))/\(0 < Ab.AR d)/\(1<=Ab.AR d/\Ab.AR d<=32)/\(0 < Ab.AR d)/\(R (pI d (aN a.toNat) a 0)))):=by kernel_rfl
theorem Y9 (d:Ab) (x:Cm) (n i:Int) (Q:Bm) (R R2:Bz):NH Yr (Ax pR) [] Ac [20] qZ (fun c=>qZ.here c) cP (fun c=>cP.here c) wx Q R R2 900 (pI d x n i)=(
 let a:=Ed d i 0 (A8 d i);(bif decide (i < n)then(Ab.down d=false/\Ba (Ab.BB d) i=false)/\(bif A8 d i==0 then(R (pI d x n (IntKind.wrap .i64 (i+1))))else((Bool.rec (bif Ba (Ab.BB d) i then false else !Ij (CV d i) 0 (A8 d i)) false (Ab.down d))=(true))/\(rL a 0 a.length i)/\(R2 (uz d x (T8 d i) (T8 d i).length n i 0)))else(Q (.tuple ⟨[(At 27),(int 0)]⟩) [some (.abs (Ct.pack (Pk.dev d)) false),some (.abs (Ct.pack (Pk.idx x)) false)]))):=by kernel_rfl
theorem jM (d:Ab) (x:Cm) (es:Aw) (m:Nat) (n i j:Int) (Q:Bm) (R R2:Bz):NH Yr (Ax pR) [] Ac [20] qZ (fun c=>qZ.here c) cP (fun c=>cP.here c) wx Q R R2 900 (uz d x es m n i j)=(
 let a:=List.getD es (0+j.toNat) (EK.BL Ah);(bif decide (j < (m:Int))then(bif decide (0<=j)&&Nat.blt j.toNat m then(bif Nat.blt (0+j.toNat) es.length then((a.2.2.2.1=(a.2.2.2.1.toNat:Int)/\Lr x a.1 a.2.1 a.2.2.1 a.2.2.2.1.toNat a.2.2.2.2.1 a.2.2.2.2.2)/\El x a.1 a.2.1 a.2.2.1 a.2.2.2.1.toNat a.2.2.2.2.1 a.2.2.2.2.2=0)/\(R2 (uz d (yf x es j) es m n i (IntKind.wrap .i64 (j+1))))else False)else False)else(R (pI d x n (IntKind.wrap .i64 (i+1)))))):=by kernel_rfl
def kF (x:Cm) (e:NQ):Prop:=(e.2.2.2.1=(e.2.2.2.1.toNat:Int)/\Lr x e.1 e.2.1 e.2.2.1 e.2.2.2.1.toNat e.2.2.2.2.1 e.2.2.2.2.2)/\El x e.1 e.2.1 e.2.2.1 e.2.2.2.1.toNat e.2.2.2.2.1 e.2.2.2.2.2=0
def fC (x:Cm) (e:NQ):Cm:=JO x e.1 e.2.1 e.2.2.1 e.2.2.2.1.toNat e.2.2.2.2.1 e.2.2.2.2.2
def Nh (x:Cm) (es:Aw):Cm:=es.foldl fC x
def Zq:Cm->Aw->Prop
 | _,[]=>True
 | x,e::r=>kF x e/\Zq (fC x e) r
def Gp (d:Ab) (i:Int):Aw:=bif A8 d i==0 then []else T8 d i
structure uC (d:Ab) (i:Int):Prop where
 dn:d.down=false
 bad:Ba d.BB i=false
 rd:(A8 d i==0)=false->Kj d i 0 (A8 d i)=true/\rL (Ed d i 0 (A8 d i)) 0 (Ed d i 0 (A8 d i)).length i
def Zz (d:Ab):Nat->Nat->Cm->Prop
 | 0,_,_=>True
 | k+1,i,x=>uC d (i:Nat)/\Zq x (Gp d (i:Nat))/\Zz d k (i+1) (Nh x (Gp d (i:Nat)))
def Mh (d:Ab):Nat->Nat->Cm->Cm
 | 0,_,x=>x
 | k+1,i,x=>Mh d k (i+1) (Nh x (Gp d (i:Nat)))
def EG (d:Ab):Cm:=Mh d d.AR.toNat 0 (aN d.AR.toNat)
structure N9 (d:Ab):Prop where
 dn:d.down=false
 s1:2<=d.AR
 s2:d.AR<=32
 all:Zz d d.AR.toNat 0 (aN d.AR.toNat)
def bK (d:Ab) (x:Cm) (v:Value) (H:AA):Prop:=v= .tuple ⟨[At 27,int 0]⟩/\[20,27].map H.get=[some (.abs (.pack (.dev d)) false),some (.abs (.pack (.idx x)) false)]
theorem dG {l:Aw} {j:Nat} (h:j < l.length):l.drop j=DI l j::l.drop (j+1):=by
 rw[fk h]
 congr 1
 unfold DI;rw[F5,FL h];rfl
theorem ad (b c:Bool) (h:(bif b then false else c)=true):(Bool.rec (motive:=fun _=>Bool) c false b)=true:=by
 cases b<;>exact h
theorem Vj {Q:Bm} {R R2:Bz} {Q':Ih} {c:BT} (hQ:∀v H,Q v (([20]++Au 4 v).map H.get)->Q' v H) (hR:∀c,R c->AX Yr 21 Ac Q' c) (hR2:∀c,R2 c->AX Yr 21 Ac Q' c)
 (h:NH Yr (Ax pR) [] Ac [20] qZ (fun c=>qZ.here c) cP (fun c=>cP.here c) wx Q R R2 900 c):AX Yr 21 Ac Q' c:=
 IH YF.pf (M:=21) (by kernel_rfl) (by decide) (by decide) hQ hR hR2 900 _ h
theorem YD {d:Ab} {n:Int} {i:Nat} {xf x0:Cm} {es:Aw} (hl:es.length < 100000) (hi:i < 100)
 (hA:AX Yr 21 Ac (bK d xf) (pI d (Nh x0 es) n ((i+1:Nat):Int))):∀(k j:Nat) (x:Cm),es.length - j=k->j<=es.length->Nh x (es.drop j)=Nh x0 es->Zq x (es.drop j)->
 AX Yr 21 Ac (bK d xf) (uz d x es es.length n (i:Nat) (j:Nat)):=by
 intro k;induction k with
 | zero=>
  intro j x hk hj hx ha;have hd:es.drop j=[]:=di (by omega);refine Vj (Q:=fun _ _=>False) (R:=fun c=>c=pI d x n ((i+1:Nat):Int)) (R2:=fun _=>False) (fun v H hq=>hq.elim) (fun c hc=>?_) (fun c h=>h.elim) ?_
  ·rw[hc];rw[hd]at hx;have hx:x=Nh x0 es:=hx;rw[hx];exact hA
  ·rw[jM];refine AZ (GP (by omega)) ?_;rw[wrap64 (by omega) (by omega)];rfl
 | succ k ih=>
  intro j x hk hj hx ha;have hlt:j < es.length:=by omega
  rw[dG hlt]at hx ha;refine Vj (Q:=fun _ _=>False) (R:=fun _=>False) (R2:=fun c=>c=uz d (fC x (DI es j)) es es.length n (i:Nat) ((j+1:Nat):Int)) (fun v H hq=>hq.elim) (fun c h=>h.elim) (fun c hc=>?_) ?_
  ·rw[hc];exact ih (j+1) _ (by omega) (by omega) hx ha.2
  ·rw[jM];(conv=>zeta)
   have hw:IntKind.wrap .i64 ((j:Int)+1)=((j+1:Nat):Int):=by rw[wrap64 (by omega) (by omega)];rfl
   rw[hw];unfold yf;simp only[HR,Hq];have h1:=ha.1;unfold kF at h1;refine AB (Fp (by omega)) (AB (EI hlt) (AB (Gc hlt) ⟨h1,?_⟩));exact rfl
theorem Xv {d:Ab} {n:Nat} (hn:n<=32):∀(k i:Nat) (x:Cm),n - i=k->i<=n->Zz d k i x->
 AX Yr 21 Ac (bK d (Mh d k i x)) (pI d x (n:Nat) (i:Nat)):=by
 intro k;induction k with
 | zero=>
  intro i x hk hi _;refine Vj (Q:=fun v os=>v= .tuple ⟨[At 27,int 0]⟩/\os=[some (.abs (.pack (.dev d)) false),some (.abs (.pack (.idx x)) false)]) (R:=fun _=>False) (R2:=fun _=>False) (fun v H hq=>?_) (fun c h=>h.elim) (fun c h=>h.elim) ?_
  ·obtain⟨rfl,hos⟩:=hq;exact⟨rfl,hos⟩
  ·rw[Y9];exact AZ (GP (by omega)) ⟨rfl,rfl⟩
 | succ k ih=>
  intro i x hk hi ha;obtain⟨h1,h2,h3⟩:=ha;have hw:IntKind.wrap .i64 ((i:Int)+1)=((i+1:Nat):Int):=by rw[wrap64 (by omega) (by omega)];rfl
  have hnext:=ih (i+1) (Nh x (Gp d (i:Nat))) (by omega) (by omega) h3;cases h0:(A8 d (i:Nat)==0)
  ·have he:Gp d (i:Nat)=T8 d (i:Nat):=by unfold Gp;rw[h0];rfl
   rw[he]at h2 hnext;obtain⟨r1,r2⟩:=h1.rd h0;refine Vj (Q:=fun _ _=>False) (R:=fun _=>False) (R2:=fun c=>c=uz d x (T8 d (i:Nat)) (T8 d (i:Nat)).length (n:Nat) (i:Nat) ((0:Nat):Int)) (fun v H hq=>hq.elim) (fun c h=>h.elim) (fun c hc=>?_) ?_
   ·rw[hc];have hes:(T8 d (i:Nat)).length < 100000:=by
     have:=Sm (Ed d (i:Nat) 0 (A8 d (i:Nat))) 0 (Ed d (i:Nat) 0 (A8 d (i:Nat))).length (i:Nat) (Ed d (i:Nat) 0 (A8 d (i:Nat))).length 0;have hb:=r2.hb;unfold T8;omega
    have:=YD (x0:=x) hes (by omega) hnext _ 0 x rfl (PM _) rfl h2;unfold Mh;rw[he];exact this
   ·rw[Y9];exact AB (Fp (by omega)) ⟨⟨h1.dn,h1.bad⟩,AZ h0 ⟨ad _ _ r1,r2,rfl⟩⟩
  ·have he:Gp d (i:Nat)=[]:=by unfold Gp;rw[h0];rfl
   refine Vj (Q:=fun _ _=>False) (R:=fun c=>c=pI d x (n:Nat) ((i+1:Nat):Int)) (R2:=fun _=>False) (fun v H hq=>hq.elim) (fun c hc=>?_) (fun c h=>h.elim) ?_
   ·rw[hc];unfold Mh;rw[he]at hnext ⊢;exact hnext
   ·rw[Y9];exact AB (Fp (by omega)) ⟨⟨h1.dn,h1.bad⟩,AB h0 (by rw[hw])⟩
theorem fI {d:Ab} (h:N9 d):AX Yr 21 Ac (bK d (EG d)) (st Ac [At 20] (hp [.abs (.pack (.dev d)) false])):=by
 obtain⟨n,hn⟩:∃n:Nat,d.AR=(n:Int):=⟨d.AR.toNat,by have:=h.s1;omega⟩
 have h1:=h.s1;have h2:=h.s2;have hall:=h.all;rw[hn]at h1 h2;refine Bq YF.pf [] [20] qZ wx (by kernel_rfl) (show 21<=21 from CC _) (fun _ _=>False) (fun c=>c=pI d (aN n) (n:Nat) ((0:Nat):Int)) (fun v H h=>h.elim) (fun c hc=>?_) (n:=900) ?_
 ·rw[hc];have:=Xv (d:=d) (n:=n) (by omega) n 0 (aN n) rfl (PM _) (by rw[hn,HR]at hall;exact hall);unfold EG;rw[hn,HR];exact this
 ·rw[sN];(conv=>zeta)
  rw[hn,HR];have hp:0 < (n:Int):=by omega
  have hne:((n:Int)==0)=false:=fH.2 (by omega);exact⟨hp,AZ hne ⟨h.dn,hp,⟨by omega,h2⟩,hp,rfl⟩⟩
def jh:Gk:=fun p rest os=>match p,rest,os with
 | .dev d,[],[]=> .ask (N9 d) (.ret ⟨.tuple ⟨[At 21,int 0]⟩,.dev d,[.abs (.pack (.idx (EG d))) false]⟩)
 | _,_,_=> .fail
theorem UP {fs:List (FuncId × DO)} (hfs:CO Tryz.prog AI fs) {f:FuncId} {n:Nat} (he:entry Tryz.prog f=some (n,A9 Tryz.prog f [])) {q:Gk}
 (hrun:∀s rest os,(q s rest os).Uh fun x=>rest.length+1<=n/\Ak (Bp Tryz.prog AI fs) (20+(os.length+1)) (fun b=>20<=b/\b < 20+(os.length+1)) f (fun v H=>Db AI 20 (os.length+1) [true] ⟨x.v,[some (.abs (.pack x.nx) false)],x.news⟩ v H) (Em f (CM 0 (.pointer (some ⟨20,0,none⟩)::rest) .leaf) n (A9 Tryz.prog f []) (DH ⟨.leaf,20⟩ (.abs (.pack s) false::EH [true] 1 os)))):
 CY Tryz.prog AI f (Ai AI 20 [true] (CX 20 q)):=by
 refine BF hfs (by kernel_rfl) he (by kernel_rfl) fun argsc objs y hxr hro=>?_
 unfold CX at hxr;split at hxr
 ·rename_i b rest s ro os;cases hb:Nat.beq b 20
  ·simp only[hb,NJ,GT.run]at hxr;cases hxr
  ·simp only[hb,Al]at hxr;have hb:=AG hb;subst hb;have hr0:ro=false:=hro 0 _ rfl rfl;subst hr0;obtain⟨x,⟨g1,g2⟩,rfl⟩:=PT.Ku (hrun s rest os) hxr;exact⟨by simpa using g1,g2⟩
 ·cases hxr
theorem jI:CY Tryz.prog AI Ac (Ai AI 20 [true] (CX 20 jh)):=by
 refine UP YF.all (n:=BD Ac) (by kernel_rfl) fun s rest os=>?_
 unfold jh;split
 ·rename_i d;intro h;refine⟨VC (by kernel_rfl),Ak.mono (AX.Fh (fI h)) ?_⟩;rintro v H ⟨rfl,hos⟩;simp only[X5,iR,JB,dM]at hos;obtain⟨g20,g27⟩:=hos;refine⟨[27],by simp,fun b hb=>?_,rfl,rfl,fun j b o hj ho=>?_,fun j o hj _ ho=>?_⟩
  ·simp at hb;subst hb;decide
  ·match j,hj,ho with
   | 0,hj,ho=>cases hj;cases ho;exact⟨_,rfl,g27⟩
   | j+1,hj,_=>cases hj
  ·have hj:j=0:=by have hj:j < 0+1:=hj;omega
   subst hj;cases ho
   exact⟨_,rfl,g20⟩
 ·trivial
def FU (d:Ab) (i:Int):Int:=IntKind.wrap .i64 (((CV d i).b.length:Int) - (CV d i).Ej)
def Dm (d:Ab) (i:Int):Bool:= !(FU d i==0)
structure ko (d:Ab) (l:Ad):Prop where
 dn:d.down=false
 ok:∀i∈l,Ba d.BB i=false
 ln:l.length < 100000
def wD:Stop:=⟨Aq,1,2,21,[20],[0,1,9,10]⟩
def vp:FV:=[(BG,[5])]
def yN:AP:= .loop ⟨.ready,none,BG,EZ [(5,At 24)],BD BG,#[15,16],A9 Tryz.prog BG [1,1,1,0,1,0,0],A9 Tryz.prog BG [1,1,1,0,1,0,1],22⟩
def sH (d:Ab) (n i a:Int):BT:=
 ⟨⟨Aq,EZ [(0,.func (.yield 23) ⟨[]⟩ ⟨[]⟩),(1,At 21),(9,int n),(10,int i)],BD Aq,[.code (A9 Tryz.prog Aq [1,0,0]),.inLoop (A9 Tryz.prog Aq [1,0,0]),.inBlock 0],[],false,.normal,none⟩,
  [⟨BG,EZ [(5,At 24)],BD BG,[.inRangeFunc 23,.inBlock 0,.code (A9 Tryz.prog BG [1,1,1,1])],[⟨.collected 22,⟨[]⟩⟩],false,.normal,none⟩],
  ((((hp [.abs (.pack (.dev d)) false]).alloc (.cells [At 20] 0 false)).alloc (.deferred (some []))).alloc yN).alloc (.cells [int a] 0 false)⟩
theorem sX (d:Ab) (Q:Bm) (R:Bz):Iy Yr (Ax pR) [] BG [20] wD vp Q R 900 (st BG [At 20] (hp [.abs (.pack (.dev d)) false]))=(
 (0 < Ab.AR d)/\(bif Ab.AR d==0 then(Q (.tuple ⟨[(int 0),(int 1)]⟩) [some (.abs (Ct.pack (PL.nx { v:=int (Ab.AR d),nx:=Pk.dev d,news:=[] })) false)])else((d.5)=(false))/\(0 < Ab.AR d)/\(R (sH d (Ab.AR d) 0 0)))):=by kernel_rfl
theorem qe (d:Ab) (n i a:Int) (Q:Bm) (R:Bz):Iy Yr (Ax pR) [] BG [20] wD vp Q R 900 (sH d n i a)=(
 let b:=IntKind.wrap .i64 (i+1);(bif decide (i < n)then(Ab.down d=false/\Ba (Ab.BB d) i=false)/\(bif A8 d i==0 then(R (sH d n b a))else((Bool.rec (bif Ba (Ab.BB d) i then false else !Ij (CV d i) 0 (A8 d i)) false (Ab.down d))=(true))/\(R (sH d n b (IntKind.wrap .i64 (a+Int.ofNat (Ed d i 0 (A8 d i)).length)))))else(Q (.tuple ⟨[(int a),(int 0)]⟩) [some (.abs (Ct.pack (Pk.dev d)) false)]))):=by kernel_rfl
def Ql (d:Ab) (i:Int):Int:=bif A8 d i==0 then 0 else((Ed d i 0 (A8 d i)).length:Int)
structure qb (d:Ab) (i:Int):Prop where
 bad:Ba d.BB i=false
 rd:(A8 d i==0)=false->Kj d i 0 (A8 d i)=true
 le:(Ed d i 0 (A8 d i)).length<=8192
structure kR (d:Ab):Prop where
 dn:d.down=false
 s1:2<=d.AR
 s2:d.AR<=32
 all:∀i:Nat,(i:Int) < d.AR->qb d i
def jm (d:Ab):Nat->Nat->Int->Int
 | 0,_,a=>a
 | k+1,i,a=>jm d k (i+1) (a+Ql d (i:Nat))
def gO (d:Ab):Int:=jm d d.AR.toNat 0 0
def qO (d:Ab) (n:Int) (v:Value) (H:AA):Prop:=v= .tuple ⟨[int n,int 0]⟩/\[20].map H.get=[some (.abs (.pack (.dev d)) false)]
theorem nY {d:Ab} {n:Nat} (hdn:d.down=false) (hn:n<=32) (hall:∀i:Nat,i < n->qb d i):∀(k i:Nat) (a:Int),n - i=k->i<=n->0<=a->a<=8192 * i->
 AX Yr 21 BG (qO d (jm d k i a)) (sH d (n:Nat) (i:Nat) a):=by
 intro k;induction k with
 | zero=>
  intro i a hk hi h0 h1;refine Bq YF.pf [] [20] wD vp (by kernel_rfl) (show 21<=21 from CC _) (fun v os=>v= .tuple ⟨[int a,int 0]⟩/\os=[some (.abs (.pack (.dev d)) false)]) (fun _=>False) (fun v H hq=>?_) (fun c h=>h.elim) (n:=900) ?_
  ·obtain⟨rfl,hos⟩:=hq;exact⟨rfl,hos⟩
  ·rw[qe];exact AZ (GP (by omega)) ⟨rfl,rfl⟩
 | succ k ih=>
  intro i a hk hi h0 h1;have hw:IntKind.wrap .i64 ((i:Int)+1)=((i+1:Nat):Int):=by rw[wrap64 (by omega) (by omega)];rfl
  have h:=hall i (by omega);have hle:=h.le;have hlen:0<=Ql d (i:Nat)/\Ql d (i:Nat)<=8192:=by
   unfold Ql;cases (A8 d (i:Nat)==0)
   ·exact⟨WQ _,by show((Ed d (i:Nat) 0 (A8 d (i:Nat))).length:Int)<=8192;omega⟩
   ·exact⟨ld _,by show(0:Int)<=8192;decide⟩
  refine Bq YF.pf [] [20] wD vp (by kernel_rfl) (show 21<=21 from CC _) (fun _ _=>False) (fun c=>c=sH d (n:Nat) ((i+1:Nat):Int) (a+Ql d (i:Nat))) (fun v H h=>h.elim) (fun c hc=>?_) (n:=900) ?_
  ·rw[hc];exact ih (i+1) _ (by omega) (by omega) (by omega) (by omega)
  ·rw[qe];refine AB (Fp (by omega)) ⟨⟨hdn,h.bad⟩,?_⟩;cases h2:(A8 d (i:Nat)==0)
   ·refine AZ rfl ⟨ad _ _ (h.rd h2),?_⟩;rw[hw];unfold Ql;rw[h2,NJ];have hb:(i:Int) < 32:=by omega
    have e1:IntKind.wrap .i64 (a+Int.ofNat (Ed d (i:Nat) 0 (A8 d (i:Nat))).length)=a+((Ed d (i:Nat) 0 (A8 d (i:Nat))).length:Int):=wrap64 (by show _<=a+((Ed d (i:Nat) 0 (A8 d (i:Nat))).length:Int);omega) (by show a+((Ed d (i:Nat) 0 (A8 d (i:Nat))).length:Int)<=_;omega);rw[e1]
   ·refine AB rfl ?_;rw[hw];unfold Ql;rw[h2,Al,Int.add_zero]
theorem fj {d:Ab} (h:kR d):AX Yr 21 BG (qO d (gO d)) (st BG [At 20] (hp [.abs (.pack (.dev d)) false])):=by
 obtain⟨n,hn⟩:∃n:Nat,d.AR=(n:Int):=⟨d.AR.toNat,by have:=h.s1;omega⟩
 have h1:=h.s1;have h2:=h.s2;have hall:=h.all;rw[hn]at h1 h2;refine Bq YF.pf [] [20] wD vp (by kernel_rfl) (show 21<=21 from CC _) (fun _ _=>False) (fun c=>c=sH d (n:Nat) ((0:Nat):Int) 0) (fun v H h=>h.elim) (fun c hc=>?_) (n:=900) ?_
 ·rw[hc];have:=nY (d:=d) (n:=n) h.dn (by omega) (fun i hi=>hall i (by rw[hn];omega)) n 0 0 rfl (PM _) (ld _) (by decide);unfold gO;rw[hn,HR];exact this
 ·rw[sX];rw[hn];have hp:0 < (n:Int):=by omega
  have hne:((n:Int)==0)=false:=fH.2 (by omega);exact⟨hp,AZ hne ⟨h.dn,hp,rfl⟩⟩
def ZK:Gk:=fun p rest os=>match p,rest,os with
 | .dev d,[],[]=> .ask (kR d) (.ret ⟨.tuple ⟨[int (gO d),int 0]⟩,.dev d,[]⟩)
 | _,_,_=> .fail
theorem fp:CY Tryz.prog AI BG (Ai AI 20 [true] (CX 20 ZK)):=by
 refine UP YF.all (n:=BD BG) (by kernel_rfl) fun s rest os=>?_
 unfold ZK;split
 ·rename_i d;intro h;refine⟨VC (by kernel_rfl),Ak.mono (AX.Fh (fj h)) ?_⟩;rintro v H ⟨rfl,hos⟩;simp only[X5,iR,JB,dM]at hos;refine⟨[],Zk,fun b hb=>(by cases hb),rfl,rfl,fun j b o hj=>(by cases hj),fun j o hj _ ho=>?_⟩;have hj:j=0:=by have hj:j < 0+1:=hj;omega
  subst hj;cases ho
  exact⟨_,rfl,hos⟩
 ·trivial
def Rg (n:Nat) (c:BT):Bool:=match c.fr.todo with
 | _:: .inBlock k::_=>Nat.beq k n
 | _=>false
def De (d:Ab) (i:Int):Int × Ab:=Ma d i Cn fun _=>false
def allI (n:Nat):Ad:=(List.range n).map fun i=>((i:Nat):Int)
def HU (d:Ab):Ad->Int × Ab
 | []=>(0,d)
 | t::r=>bif (De d t).1 != 0 then De d t else HU (De d t).2 r
def Bo (d:Ab):Ad:=(allI (d.AR.toNat+2)).filter (Dm d)
structure Rj (d:Ab):Prop where
 dn:d.down=false
 s1:2<=d.AR
 s2:d.AR<=32
 ok:∀i∈allI (d.AR.toNat+2),Ba d.BB i=false
end Go.AD
