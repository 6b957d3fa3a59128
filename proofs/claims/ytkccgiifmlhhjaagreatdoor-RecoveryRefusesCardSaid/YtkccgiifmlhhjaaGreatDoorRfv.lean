/-
  Part of the proof: the machine that runs a program by fixed orders, and that each of its runs is a run of the model; or a run of it in parts. No conditions.
-/
import Derived.Test.YtkccgiifmlhhjaaGreatDoorInc
import Derived.Test.YtkccgiifmlhhjaaGreatDoorIdTell3
import Derived.Test.YtkccgiifmlhhjaaGreatDoorAbr
import Derived.Test.YtkccgiifmlhhjaaGreatDoorLxb
import Derived.Test.YtkccgiifmlhhjaaGreatDoorLh
noncomputable section
set_option maxRecDepth 1000000
namespace Go.AD
open Go.Proofs
structure qP (t m r y a b:Nat) (x:Cm) (H:AA):Prop where
 nd:[t,m,r,y,a,b].Nodup
 g0:H.get t=some (.cells [At m,Ao r x.AR.length] 0 false)
 g1:H.get m=some (.cells [.bool true,Ao y x.keys.length] 0 false)
 g2:H.get r=some (.vec [.tok] (GL a x.AR) false)
 g3:H.get y=some (.vec EV (Df b x.keys) false)
 g4:H.get a=some (.abs (.mem Ah (x.AR.map some)) false)
 g5:H.get b=some (.abs (.mem Ah (DY x.keys)) false)
theorem gI {base:Env} {W0 W:World} {μ:Ae} {H:AA} (h:AJ base W0 μ H W) {t m r y a b:Nat} {x:Cm} (hI:qP t m r y a b x H) (hd:∀z∈[t,m,r,y,a,b],∃T,μ z=some T):AJ base W0 μ (Le (.idx x) [t,m,r,y,a,b] H) W:=by
 have hS:=E2 (s:= .idx x) (H:=H) hI.nd;refine(h.shut (Bx.idx x) hI.nd rfl (by simp) hd (fun i z o hz ho=>?_) hS (fun o T ho=>by cases ho;exact id)).1
 match i,hz,ho with
 | 0,hz,ho=>cases hz;cases ho;exact⟨_,hI.g0,rfl,rfl,rfl⟩
 | 1,hz,ho=>cases hz;cases ho;exact⟨_,hI.g1,rfl,rfl,rfl⟩
 | 2,hz,ho=>cases hz;cases ho;exact⟨_,hI.g2,rfl,rfl,OV (by rfl) _ _⟩
 | 3,hz,ho=>cases hz;cases ho;exact⟨_,hI.g3,rfl,rfl,Nv (by rfl) _ _⟩
 | 4,hz,ho=>cases hz;cases ho;exact⟨_,hI.g4,rfl,rfl,rfl⟩
 | 5,hz,ho=>cases hz;cases ho;exact⟨_,hI.g5,rfl,rfl,rfl⟩
 | i+6,hz,ho=>cases hz
def aN (n:Nat):Cm:=⟨[],List.replicate n []⟩
def Ix (n:Nat) (H:AA):AA:=(H.put 20 (.vec [.tok] (List.replicate n (Value.slice none 0 0)) false)).put 22 (.cells [At 21,Ao 20 n] 0 false)
def Io (n:Nat) (H:AA):AA:=((Ix n H).FN EV).put 21 (.cells [.bool true,Ao (Ix n H).Cx 0] 0 false)
def P6 (n:Nat) (H:AA):AA:=((Io n H).alloc (.abs (.mem Ah (List.replicate n (some []))) false)).put 20 (.vec [.tok] (GL (Io n H).next (List.replicate n [])) false)
def Vt (n:Nat) (H:AA):AA:=(P6 n H).alloc (.abs (.mem Ah (List.replicate 0 (some []))) false)
def uQ (n:Nat) (H:AA):AW:=[22,21,20,(Ix n H).Cx,(Io n H).next,(P6 n H).next]
def xE (n:Nat) (H:AA):AA:=Le (.idx (aN n)) (uQ n H) (Vt n H)
theorem Zr (n:Nat) (H:AA):(Io n H).next=(Ix n H).Cx+1/\(P6 n H).next=(Io n H).next+1/\100<=(Ix n H).Cx/\(Ix n H).next<=(Ix n H).Cx:=⟨rfl,rfl,AA.O4 _,Nat.le_max_left _ _⟩
theorem U8 (n:Nat) (H:AA):(uQ n H).Nodup:=by
 obtain⟨h1,h2,h3,_⟩:=Zr n H;unfold uQ;simp only[fg,WL,Yk,lG,dt,HM,dM];refine⟨?_,?_,?_,?_,by omega,id⟩
 all_goals omega
theorem mK {base:Env} {W0 W:World} {μ:Ae} {H:AA} {n:Nat} (hn:1<=n) (hn2:n<=32) (hH:AJ base W0 μ H W) (hm:∃T,μ 22=some T) (g20:H.get 20=some (.cells (List.replicate n (.slice none 0 0)) 1 false)) (g21:H.get 21=some (.cells [.bool true,.slice none 0 0] 0 false)) (g22:H.get 22=some (.cells [At 21,.slice (some ⟨20,0,none⟩) n n] 0 false)):
 ∃μ2,μ.le μ2/\AJ base W0 μ2 (xE n H) W:=by
 obtain⟨e1,e2,e3,e4⟩:=Zr n H;have l20:=hH.lt g20;have l22:=hH.lt g22;have m21:∃T,μ 21=some T:=JW.bN hH (rs:=[22]) (fun r hr=>by simp at hr;subst hr;exact hm) (.next (.here (by simp)) g22 (List.mem_flatMap.2 ⟨At 21,by simp,by show 21∈[21];simp⟩))
 have m20:∃T,μ 20=some T:=JW.bN hH (rs:=[22]) (fun r hr=>by simp at hr;subst hr;exact hm) (.next (.here (by simp)) g22 (List.mem_flatMap.2 ⟨.slice (some ⟨20,0,none⟩) n n,by simp,by show 20∈[20];simp⟩))
 have k1:=hH.JF (b:=20) (k:=[.tok]) (l:=List.replicate n (Value.slice none 0 0)) (ro:=false) (by rw[D9];exact g20);have k2:=k1.ke (b:=22) (n:=20) (len:=n) (cap:=n) (e:=0) (k:=[.tok]) (l:=List.replicate n (Value.slice none 0 0)) (ro:=false) (ro2:=false) (pre:=[At 21]) (post:=[]) (by rw[AA.AU,E7 (by decide)];exact g22) (by rw[AA.AU,HI rfl]) (by omega) (CC _) (by rw[BG];exact CC _) (by omega);rw[Dh]at k2;have k2:AJ base W0 μ (Ix n H) W:=k2;have p21:(Ix n H).get 21=some (.cells [.bool true,.slice none 0 0] 0 false):=by
  unfold Ix;rw[AA.AU,E7 (by decide),AA.AU,E7 (by decide)];exact g21
 have p20:(Ix n H).get 20=some (.vec [.tok] (List.replicate n (Value.slice none 0 0)) false):=by
  unfold Ix;rw[AA.AU,E7 (by decide),AA.AU,HI rfl]
 have p22:(Ix n H).get 22=some (.cells [At 21,Ao 20 n] 0 false):=by
  unfold Ix;rw[AA.AU,HI rfl]
 obtain⟨ν1,u1,k3⟩:=k2.lZ (c:=20) (k:=EV) (b:=21) (e:=0) (ro:=false) (pre:=[.bool true]) (post:=[]) m20 p21 (by decide);rw[Dh]at k3;have k3:AJ base W0 ν1 (Io n H) W:=k3;have q21:(Io n H).get 21=some (.cells [.bool true,Ao (Ix n H).Cx 0] 0 false):=by
  unfold Io;rw[AA.AU,HI rfl]
 have qo:∀z,z≠21->z≠(Ix n H).Cx->(Io n H).get z=(Ix n H).get z:=fun z z1 z2=>by
  unfold Io;rw[AA.AU,E7 z1,AA.KH,E7 z2]
 have qy:(Io n H).get (Ix n H).Cx=some (.vec EV [] false):=by
  unfold Io;rw[AA.AU,E7 (by omega),AA.KH,HI rfl]
 obtain⟨T,hT⟩:=m20;have k4:=k3.qa Ah n (by decide) (u1 20 T hT);generalize hT2:(⟨T.c,0,0,CH (List.replicate n ⟨T.c,0,0,Ah.length⟩)⟩:Bc)=T2 at k4;have u2:ν1.le (ν1.ext (Io n H).next T2):=Ae.Cc T2 (k3.fresh _ (CC _)).2;have k5:=k4.NV (b:=20) (k:=[.tok]) (x:=List.replicate n (Value.slice none 0 0)) (x':=GL (Io n H).next (List.replicate n [])) (ro:=false) (by rw[AA.AM,E7 (by omega),qo 20 (by decide) (by omega)];exact p20) (by rw[DS,BG,BG]) (fun w hw=>by
  rw[D9]at hw ⊢;refine Am.ah _ _ _ (by rw[DS,BG,BG]) (fun i v v' h1 h2 u hu=>?_) hw;rw[M7,pG]at h2;rw[pG]at h1;split at h1
  ·rename_i hi;rw[HI hi]at h2;cases h1;cases h2;cases hu
   exact .F9 _ i cU _ none (Ae.Af _ _ _) (.inr ⟨by rw[Dh];exact CC _,by rw[Dh];exact dD _⟩)
  ·cases h1)
 have k5:AJ base W0 _ (P6 n H) W:=k5;have k6:=k5.qa Ah 0 (by decide) (u2 20 T (u1 20 T hT));generalize (⟨T.c,0,0,CH (List.replicate 0 ⟨T.c,0,0,Ah.length⟩)⟩:Bc)=T3 at k6;have u3:(ν1.ext (Io n H).next T2).le ((ν1.ext (Io n H).next T2).ext (P6 n H).next T3):=Ae.Cc T3 (k5.fresh _ (CC _)).2;have k6:AJ base W0 _ (Vt n H) W:=k6;have r4:∀z,z≠20->z < (Io n H).next->(Vt n H).get z=(Io n H).get z:=fun z z1 z2=>by
  unfold Vt;rw[AA.AM,E7 (by omega)];unfold P6;rw[AA.AU,E7 z1,AA.AM,E7 (by omega)]
 have hy:∃T,ν1 (Ix n H).Cx=some T:=JW.bN k3 (rs:=[21]) (fun r hr=>by simp at hr;subst hr;obtain⟨X,hX⟩:=m21;exact⟨X,u1 _ _ hX⟩) (.next (.here (by simp)) q21 (List.mem_flatMap.2 ⟨Ao (Ix n H).Cx 0,by simp,Kz⟩))
 have hI:qP 22 21 20 (Ix n H).Cx (Io n H).next (P6 n H).next (aN n) (Vt n H):=by
  refine⟨U8 n H,?_,?_,?_,?_,?_,?_⟩
  ·rw[r4 22 (by decide) (by omega),qo 22 (by decide) (by omega),p22];unfold aN;rw[BG]
  ·rw[r4 21 (by decide) (by omega),q21];rfl
  ·unfold Vt;rw[AA.AM,E7 (by omega)];unfold P6;rw[AA.AU,HI rfl];rfl
  ·rw[r4 _ (by omega) (by omega),qy];rfl
  ·unfold Vt;rw[AA.AM,E7 (by omega)];unfold P6;rw[AA.AU,E7 (by omega),AA.AM,HI rfl];unfold aN;rw[List.map_replicate]
  ·unfold Vt;rw[AA.AM,HI rfl];rfl
 refine⟨_,Ae.le_trans u1 (Ae.le_trans u2 u3),gI k6 hI fun z hz=>?_⟩;have up:∀z,(∃T,ν1 z=some T)->∃T,((ν1.ext (Io n H).next T2).ext (P6 n H).next T3) z=some T:=fun z ⟨X,hX⟩=>⟨X,u3 _ _ (u2 _ _ hX)⟩
 have up0:∀z,(∃T,μ z=some T)->∃T,((ν1.ext (Io n H).next T2).ext (P6 n H).next T3) z=some T:=fun z ⟨X,hX⟩=>up z ⟨X,u1 _ _ hX⟩
 simp only[WL,Yk,lG]at hz;rcases hz with rfl | rfl | rfl | rfl | rfl | rfl
 ·exact up0 _ hm
 ·exact up0 _ m21
 ·exact up0 _ ⟨T,hT⟩
 ·exact up _ hy
 ·exact⟨T2,u3 _ _ (Ae.Af _ _ _)⟩
 ·exact⟨T3,Ae.Af _ _ _⟩
def yP (args:AL) (objs:BN):GT:=match args,objs with
 | [.int .i64 n],[]=> .ask (1<=n/\n<=32) (.ret ⟨.tuple ⟨[At 20,int 0]⟩,[],[.abs (.pack (.idx (aN n.toNat))) false]⟩)
 | _,_=> .fail
theorem gu:CY Tryz.prog AI E0 (Ai AI 20 [] yP):=by
 refine BF dX.all (by kernel_rfl) (n:=BD E0) (by kernel_rfl) (by kernel_rfl) fun argsc objs x hx hro=>?_
 clear hro;unfold yP at hx;split at hx
 ·rename_i n;simp only[GT.run]at hx;split at hx
  ·rename_i hp0;cases hx
   obtain⟨m,rfl⟩:∃m:Nat,n=(m:Int):=⟨n.toNat,by omega⟩
   rw[HR];have hm1:1<=m:=by omega
   have hm2:m<=32:=by omega
   refine⟨VC (by kernel_rfl),Ak.tell (AX.Fh (BK dX.pf (M:=20) (by kernel_rfl) (ri (fun v os=>v= .tuple ⟨[At 22,int 0]⟩/\os=[some (.cells (List.replicate m (.slice none 0 0)) 1 false),some (.cells [.bool true,.slice none 0 0] 0 false),some (.cells [At 21,.slice (some ⟨20,0,none⟩) m m] 0 false),some (.cells [At 21,.slice (some ⟨20,0,none⟩) m m] 0 false)]) m hm1 hm2 ⟨rfl,rfl⟩))) ?_⟩;rintro v H ⟨rfl,hos⟩;have hos:[20,21,22,22].map H.get=_:=hos;simp only[X5,iR,JB,dM]at hos;obtain⟨g20,g21,g22,_⟩:=hos;refine⟨.tuple ⟨[At 22,int 0]⟩,xE m H,fun base W0 μ W v' _ hv hH=>?_,?_⟩
   ·have hm:∃T,μ 22=some T:=FJ (Am.cons hv .nil) 22 (by show 22∈[22];simp)
    obtain⟨μ2,r1,r2⟩:=mK hm1 hm2 hH hm g20 g21 g22;exact⟨μ2,r1,r2,hv.mono r1⟩
   ·refine⟨[22],by simp,fun b hb=>?_,rfl,rfl,fun j b o hj ho=>?_,fun j o hj=>(by cases hj)⟩
    ·simp at hb;subst hb;decide
    ·match j,hj,ho with
     | 0,hj,ho=>
      cases hj;cases ho
      exact⟨_,rfl,(E2 (U8 m H)).root 22 rfl⟩
     | j+1,hj,_=>cases hj
  ·cases hx
 ·cases hx
theorem IU {N:Nat} {q q1:Gk} (h:∀s rest os x,(q1 s rest os).gt.run=some x->(q s rest os).gt.run=some x):∀a o x,(CX N q1 a o).run=some x->(CX N q a o).run=some x:=by
 intro a o x hx;unfold CX at hx ⊢;split at hx
 ·rename_i b rest s ro os;cases hb:Nat.beq b N
  ·simp only[hb,AN,GT.run]at hx;cases hx
  ·simp only[hb,Al]at hx ⊢;exact h _ _ _ _ hx
 ·cases hx
def A8 (d:Ab) (i:Int):Int:=(CV d i).b.length
def oa:Gk:=fun p rest os=>match p,rest,os with
 | .dev d,[.int .i64 i],[]=> .ask (d.down=false/\Ba d.BB i=false) (.ret ⟨DE (A8 d i) 0,.dev d,[]⟩)
 | _,_,_=> .fail
def fR:Gk:=fun p rest os=>match p,rest,os with
 | .dev d,[.int .i64 i,.int .i64 a,.int .i64 k],[]=> .ask (Kj d i a k=true) (.ret ⟨.tuple ⟨[Ao 21 (Ed d i a k).length,int 0]⟩,.dev d,[.vec kB (Ed d i a k) false]⟩)
 | _,_,_=> .fail
def ax:Gk:=fun p rest os=>match p,rest,os with
 | .dev d,[],[]=> .ask (d.down=false) (.ret ⟨.bool false,.dev d,[]⟩)
 | _,_,_=> .fail
def Tx:Gk:=fun p rest os=>match p,rest,os with
 | .dev d,[],[]=> .ask (0 < d.AR) (.ret ⟨int d.AR,.dev d,[]⟩)
 | _,_,_=> .fail
def uG:Gk:=fun p rest os=>match p,rest,os with
 | .idx x,[.agg ⟨[.int .i64 q,.string a,.bool d,.int .i64 s,.int .i64 o,.int .i64 z]⟩],[]=> .ask ((s=(s.toNat:Int)/\Lr x q a d s.toNat o z)/\El x q a d s.toNat o z=0) (.ret ⟨int 0,.idx (JO x q a d s.toNat o z),[]⟩)
 | _,_,_=> .fail
theorem Ws:∀a o x,(CX 20 oa a o).run=some x->(CX 20 (HK fun m=>m.b.length) a o).run=some x:=IU fun s rest os x hx=>by
 unfold oa at hx;unfold HK;split at hx
 ·rename_i d i;simp only[PT.gt,GT.run]at hx ⊢;split at hx
  ·rename_i h;rw[Nj h.1 h.2];exact hx
  ·cases hx
 ·simp only[PT.gt,GT.run]at hx;cases hx
theorem bU:∀a o x,(CX 20 fR a o).run=some x->(CX 20 M4 a o).run=some x:=IU fun s rest os x hx=>by
 unfold fR at hx;unfold M4;split at hx
 ·rename_i d i a k;simp only[PT.gt,GT.run]at hx ⊢;split at hx
  ·rename_i h;rw[h];exact hx
  ·cases hx
 ·simp only[PT.gt,GT.run]at hx;cases hx
theorem Sy:∀a o x,(CX 20 ax a o).run=some x->(CX 20 (FT (fun d=> .bool d.down) id) a o).run=some x:=IU fun s rest os x hx=>by
 unfold ax at hx;unfold FT;split at hx
 ·rename_i d;simp only[PT.gt,GT.run]at hx ⊢;split at hx
  ·rename_i h;rw[h];exact hx
  ·cases hx
 ·simp only[PT.gt,GT.run]at hx;cases hx
theorem Q6:∀a o x,(CX 20 Tx a o).run=some x->(CX 20 (FT (fun d=>int d.AR) id) a o).run=some x:=IU fun s rest os x hx=>by
 unfold Tx at hx;unfold FT;split at hx
 ·rename_i d;simp only[PT.gt,GT.run]at hx ⊢;split at hx
  ·exact hx
  ·cases hx
 ·simp only[PT.gt,GT.run]at hx;cases hx
theorem jC:∀a o x,(CX 20 uG a o).run=some x->(s7 a o).run=some x:=IU fun s rest os x hx=>by
 unfold uG at hx;unfold Yl;split at hx
 ·rename_i y q a d s o z;simp only[PT.gt,GT.run]at hx ⊢;split at hx
  ·rename_i h;rw[HI ⟨h.1,trivial⟩,h.2];exact hx
  ·cases hx
 ·simp only[PT.gt,GT.run]at hx;cases hx
def pR:List GA:=[(DQ,Ai AI 20 [true] (CX 20 (HK fun m=>m.b.length)),Cs AI 20 [true] (CX 20 oa)),
 (Cb,Ai AI 20 [true] (CX 20 M4),Cs AI 20 [true] (CX 20 fR)),
 (Di,Ai AI 20 [true] (CX 20 (FT (fun d=> .bool d.down) id)),Cs AI 20 [true] (CX 20 ax)),
 (DT,Ai AI 20 [true] (CX 20 (FT (fun d=>int d.AR) id)),Cs AI 20 [true] (CX 20 Tx)),
 (AE,Ai AI 20 [true] s7,Cs AI 20 [true] (CX 20 uG)),GQ E0 [] yP,GQ Ay [] yW]
theorem YF:Ci pR:= .OG Sz Ws <| .OG YH bU <| .OG QK Sy <| .OG Ox Q6 <| .OG og jC <| .cons gu <| .cons rB .nil
abbrev Yr:Ctx:=Bp Tryz.prog AI (Cv pR)
def qZ:Stop:=⟨Aq,1,2,21,[20],[0,1,9,10]⟩
def cP:Stop:=⟨Ac,2,3,21,[20],[2,3,5,41,42,43]⟩
def wx:FV:=[(Aq,[0,1,9,10,30]),(Ac,[2,3,5])]
def wu:Tr Value:=EZ [(2,At 26),(3,At 24),(5,At 25)]
def x6 (b:Bool):AP:= .loop ⟨bif b then .busy else .ready,none,Ac,wu,BD Ac,#[30,31],A9 Tryz.prog Ac [1,1,1,1,0,1,0,0],A9 Tryz.prog Ac [1,1,1,1,0,1,0,1],22⟩
def pI (d:Ab) (x:Cm) (n i:Int):BT:=
 ⟨⟨Aq,EZ [(0,.func (.yield 23) ⟨[]⟩ ⟨[]⟩),(1,At 21),(9,int n),(10,int i)],BD Aq,[.code (A9 Tryz.prog Aq [1,0,0]),.inLoop (A9 Tryz.prog Aq [1,0,0]),.inBlock 0],[],false,.normal,none⟩,
  [⟨Ac,wu,BD Ac,[.inRangeFunc 23,.inBlock 0,.code (A9 Tryz.prog Ac [1,1,1,1,1])],[⟨.collected 22,⟨[]⟩⟩],false,.normal,none⟩],
  (((((((hp [.abs (.pack (.dev d)) false]).alloc (.cells [At 20] 0 false)).alloc (.deferred (some []))).alloc (x6 false)).alloc (.cells [int 0] 0 false)).alloc (.cells [At 27] 0 false)).alloc (.cells [.pointer none] 0 false)).alloc (.abs (.pack (.idx x)) false)⟩
def T8 (d:Ab) (i:Int):Aw:=GS (Ed d i 0 (A8 d i)) 0 (List.length (Ed d i 0 (A8 d i))) i (List.length (Ed d i 0 (A8 d i))) 0
def yf (x:Cm) (es:Aw) (j:Int):Cm:=JO x (DI es (0+j.toNat)).1 (DI es (0+j.toNat)).2.1 (DI es (0+j.toNat)).2.2.1 (DI es (0+j.toNat)).2.2.2.1.toNat (DI es (0+j.toNat)).2.2.2.2.1 (DI es (0+j.toNat)).2.2.2.2.2
def qE:Tr Value:=EZ [(2,At 21),(3,At 22),(5,At 23)]
def xO:AP:= .loop ⟨.busy,none,Ac,qE,BD Ac,#[30,31],A9 Tryz.prog Ac [1,1,1,1,0,1,0,0],A9 Tryz.prog Ac [1,1,1,1,0,1,0,1],27⟩
def uz (d:Ab) (x:Cm) (es:Aw) (m:Nat) (n i j:Int):BT:=
 ⟨⟨Ac,EZ [(2,At 21),(3,At 22),(5,At 23),(41,Ao 24 m),(42,int m),(43,int j)],BD Ac,[.code (A9 Tryz.prog Ac [1,1,1,1,0,1,0,1,0,1,1,1,0,0]),.inLoop (A9 Tryz.prog Ac [1,1,1,1,0,1,0,1,0,1,1,1,0,0]),.inBlock 2,.inBlock 1],[],false,.normal,some 25⟩,
  [⟨Aq,EZ [(0,.func (.yield 25) ⟨[]⟩ ⟨[]⟩),(1,At 26),(9,int n),(10,int i),(30,.bool false)],BD Aq,[GU (A9 Tryz.prog Aq [1,0,0,1,1,0,0,1,1,1,1,0]) 6,.code (A9 Tryz.prog Aq [1,0,0,1,1,0,0,1,1,1,1,1]),.inBlock 1,.code (A9 Tryz.prog Aq [1,0,0,1,1,1]),.inLoop (A9 Tryz.prog Aq [1,0,0]),.inBlock 0],[],false,.normal,none⟩,
   ⟨Ac,qE,BD Ac,[.inRangeFunc 25,.inBlock 0,.code (A9 Tryz.prog Ac [1,1,1,1,1])],[⟨.collected 27,⟨[]⟩⟩],false,.normal,none⟩],
  ((((((((hp [.abs (.pack (.dev d)) false]).alloc (.cells [.pointer none] 0 false)).alloc (.cells [int 0] 0 false)).alloc (.cells [At 28] 0 false)).alloc (.vec Ah es false)).alloc xO).alloc (.cells [At 20] 0 false)).alloc (.deferred (some []))).alloc (.abs (.pack (.idx x)) false)⟩
theorem sN (d:Ab) (Q:Bm) (R:Bz):Iy Yr (Ax pR) [] Ac [20] qZ wx Q R 900 (st Ac [At 20] (hp [.abs (.pack (.dev d)) false]))=(
 let a:=Ab.AR d;(0 < Ab.AR d)/\(bif Ab.AR d==0 then(Q (.tuple ⟨[(.pointer none),(int 1)]⟩) [some (.abs (Ct.pack (PL.nx { v:=int a,nx:=Pk.dev d,news:=[] })) false)])else((d.5)=(false))/\(0 < Ab.AR d)/\(1<=Ab.AR d/\Ab.AR d<=32)/\(0 < Ab.AR d)/\(R (pI d (aN a.toNat) a 0)))):=by kernel_rfl
theorem Y9 (d:Ab) (x:Cm) (n i:Int) (Q:Bm) (R R2:Bz):NH Yr (Ax pR) [] Ac [20] qZ (fun c=>qZ.here c) cP (fun c=>cP.here c) wx Q R R2 900 (pI d x n i)=(
 let a:=Ed d i 0 (A8 d i);(bif decide (i < n)then(Ab.down d=false/\Ba (Ab.BB d) i=false)/\(bif A8 d i==0 then(R (pI d x n (IntKind.wrap .i64 (i+1))))else((Bool.rec (bif Ba (Ab.BB d) i then false else !Ij (CV d i) 0 (A8 d i)) false (Ab.down d))=(true))/\(rL a 0 a.length i)/\(R2 (uz d x (T8 d i) (T8 d i).length n i 0)))else(Q (.tuple ⟨[(At 27),(int 0)]⟩) [some (.abs (Ct.pack (Pk.dev d)) false),some (.abs (Ct.pack (Pk.idx x)) false)]))):=by kernel_rfl
theorem jM (d:Ab) (x:Cm) (es:Aw) (m:Nat) (n i j:Int) (Q:Bm) (R R2:Bz):NH Yr (Ax pR) [] Ac [20] qZ (fun c=>qZ.here c) cP (fun c=>cP.here c) wx Q R R2 900 (uz d x es m n i j)=(
 let a:=List.getD es (0+j.toNat) (EK.BL Ah);(bif decide (j < (m:Int))then(bif decide (0<=j)&&Nat.blt j.toNat m then(bif Nat.blt (0+j.toNat) es.length then((a.2.2.2.1=(a.2.2.2.1.toNat:Int)/\Lr x a.1 a.2.1 a.2.2.1 a.2.2.2.1.toNat a.2.2.2.2.1 a.2.2.2.2.2)/\El x a.1 a.2.1 a.2.2.1 a.2.2.2.1.toNat a.2.2.2.2.1 a.2.2.2.2.2=0)/\(R2 (uz d (yf x es j) es m n i (IntKind.wrap .i64 (j+1))))else False)else False)else(R (pI d x n (IntKind.wrap .i64 (i+1)))))):=by kernel_rfl
def kF (x:Cm) (e:NQ):Prop:=(e.2.2.2.1=(e.2.2.2.1.toNat:Int)/\Lr x e.1 e.2.1 e.2.2.1 e.2.2.2.1.toNat e.2.2.2.2.1 e.2.2.2.2.2)/\El x e.1 e.2.1 e.2.2.1 e.2.2.2.1.toNat e.2.2.2.2.1 e.2.2.2.2.2=0
def fC (x:Cm) (e:NQ):Cm:=JO x e.1 e.2.1 e.2.2.1 e.2.2.2.1.toNat e.2.2.2.2.1 e.2.2.2.2.2
def Nh (x:Cm) (es:Aw):Cm:=es.foldl fC x
def Zq:Cm->Aw->Prop
 | _,[]=>True
 | x,e::r=>kF x e/\Zq (fC x e) r
def Gp (d:Ab) (i:Int):Aw:=bif A8 d i==0 then []else T8 d i
structure uC (d:Ab) (i:Int):Prop where
 dn:d.down=false
 bad:Ba d.BB i=false
 rd:(A8 d i==0)=false->Kj d i 0 (A8 d i)=true/\rL (Ed d i 0 (A8 d i)) 0 (Ed d i 0 (A8 d i)).length i
def Zz (d:Ab):Nat->Nat->Cm->Prop
 | 0,_,_=>True
 | k+1,i,x=>uC d (i:Nat)/\Zq x (Gp d (i:Nat))/\Zz d k (i+1) (Nh x (Gp d (i:Nat)))
def Mh (d:Ab):Nat->Nat->Cm->Cm
 | 0,_,x=>x
 | k+1,i,x=>Mh d k (i+1) (Nh x (Gp d (i:Nat)))
def EG (d:Ab):Cm:=Mh d d.AR.toNat 0 (aN d.AR.toNat)
structure N9 (d:Ab):Prop where
 dn:d.down=false
 s1:2<=d.AR
 s2:d.AR<=32
 all:Zz d d.AR.toNat 0 (aN d.AR.toNat)
theorem dG {l:Aw} {j:Nat} (h:j < l.length):l.drop j=DI l j::l.drop (j+1):=by
 rw[fk h]
 congr 1
 unfold DI;rw[F5,FL h];rfl
theorem ad (b c:Bool) (h:(bif b then false else c)=true):(Bool.rec (motive:=fun _=>Bool) c false b)=true:=by
 cases b<;>exact h
theorem Vj {Q:Bm} {R R2:Bz} {Q':Ih} {c:BT} (hQ:∀v H,Q v (([20]++Au 4 v).map H.get)->Q' v H) (hR:∀c,R c->AX Yr 21 Ac Q' c) (hR2:∀c,R2 c->AX Yr 21 Ac Q' c)
 (h:NH Yr (Ax pR) [] Ac [20] qZ (fun c=>qZ.here c) cP (fun c=>cP.here c) wx Q R R2 900 c):AX Yr 21 Ac Q' c:=
 IH YF.pf (M:=21) (by kernel_rfl) (by decide) (by decide) hQ hR hR2 900 _ h
theorem UP {fs:List (FuncId × DO)} (hfs:CO Tryz.prog AI fs) {f:FuncId} {n:Nat} (he:entry Tryz.prog f=some (n,A9 Tryz.prog f [])) {q:Gk}
 (hrun:∀s rest os,(q s rest os).Uh fun x=>rest.length+1<=n/\Ak (Bp Tryz.prog AI fs) (20+(os.length+1)) (fun b=>20<=b/\b < 20+(os.length+1)) f (fun v H=>Db AI 20 (os.length+1) [true] ⟨x.v,[some (.abs (.pack x.nx) false)],x.news⟩ v H) (Em f (CM 0 (.pointer (some ⟨20,0,none⟩)::rest) .leaf) n (A9 Tryz.prog f []) (DH ⟨.leaf,20⟩ (.abs (.pack s) false::EH [true] 1 os)))):
 CY Tryz.prog AI f (Ai AI 20 [true] (CX 20 q)):=by
 refine BF hfs (by kernel_rfl) he (by kernel_rfl) fun argsc objs y hxr hro=>?_
 unfold CX at hxr;split at hxr
 ·rename_i b rest s ro os;cases hb:Nat.beq b 20
  ·simp only[hb,AN,GT.run]at hxr;cases hxr
  ·simp only[hb,Al]at hxr;have hb:=AG hb;subst hb;have hr0:ro=false:=hro 0 _ rfl rfl;subst hr0;obtain⟨x,⟨g1,g2⟩,rfl⟩:=PT.Ku (hrun s rest os) hxr;exact⟨by simpa using g1,g2⟩
 ·cases hxr
def FU (d:Ab) (i:Int):Int:=IntKind.wrap .i64 (((CV d i).b.length:Int) - (CV d i).Ej)
def Dm (d:Ab) (i:Int):Bool:= !(FU d i==0)
structure ko (d:Ab) (l:Ad):Prop where
 dn:d.down=false
 ok:∀i∈l,Ba d.BB i=false
 ln:l.length < 100000
end Go.AD
namespace Go.AD
open Go.Proofs
end Go.AD
namespace Go.AD
open Go.Proofs
structure qb (d:Ab) (i:Int):Prop where
 bad:Ba d.BB i=false
 rd:(A8 d i==0)=false->Kj d i 0 (A8 d i)=true
 le:(Ed d i 0 (A8 d i)).length<=8192
structure kR (d:Ab):Prop where
 dn:d.down=false
 s1:2<=d.AR
 s2:d.AR<=32
 all:∀i:Nat,(i:Int) < d.AR->qb d i
def De (d:Ab) (i:Int):Int × Ab:=Ma d i Cn fun _=>false
def allI (n:Nat):Ad:=(List.range n).map fun i=>((i:Nat):Int)
def HU (d:Ab):Ad->Int × Ab
 | []=>(0,d)
 | t::r=>bif (De d t).1 != 0 then De d t else HU (De d t).2 r
def Bo (d:Ab):Ad:=(allI (d.AR.toNat+2)).filter (Dm d)
structure Rj (d:Ab):Prop where
 dn:d.down=false
 s1:2<=d.AR
 s2:d.AR<=32
 ok:∀i∈allI (d.AR.toNat+2),Ba d.BB i=false
def jR (args:AL) (objs:BN):GT:=match args,objs with
 | [.agg ⟨[.int .i64 k,.int .i64 q,.string a,.string b]⟩,.int .i64 s,.int .i64 o],[]=> .ask (L6 k q a b s o=true) (.ret ⟨.tuple ⟨[G6 q a (k==2) s o (Bu a b),int 0]⟩,[],[]⟩)
 | _,_=> .fail
def jo (args:AL) (objs:BN):GT:=match args,objs with
 | [.agg ⟨[.int .i64 k,.int .i64 q,.string a,.string b]⟩],[]=> .ask (DR k q a b=true) (.ret ⟨.tuple ⟨[Ao 20 (Bu a b),int 0]⟩,[],[.vec kB (E3 k q a b) false]⟩)
 | _,_=> .fail
theorem cj:∀a o x,(jR a o).run=some x->(TX a o).run=some x:=by
 intro a o x hx;unfold jR at hx;unfold TX;split at hx
 ·simp only[GT.run]at hx ⊢;split at hx
  ·rename_i h;rw[h];exact hx
  ·cases hx
 ·cases hx
theorem dV:∀a o x,(jo a o).run=some x->(VV a o).run=some x:=by
 intro a o x hx;unfold jo at hx;unfold VV;split at hx
 ·simp only[GT.run]at hx ⊢;split at hx
  ·rename_i h;rw[h];exact hx
  ·cases hx
 ·cases hx
def iT:Gk:=fun p rest os=>match p,rest,os with
 | .dev d,[.int .i64 i],[]=> .ask ((De d i).1=0) (.ret ⟨int 0,.dev (De d i).2,[]⟩)
 | _,_,_=> .fail
theorem dU:∀a o x,(CX 20 iT a o).run=some x->(CX 20 (TB Cn fun _=>false) a o).run=some x:=IU fun s rest os x hx=>by
 unfold iT at hx;unfold TB;split at hx
 ·rename_i d i;simp only[PT.gt,GT.run]at hx ⊢;split at hx
  ·rename_i h;show some _=some _;unfold De at hx h;rw[h];exact hx
  ·cases hx
 ·simp only[PT.gt,GT.run]at hx;cases hx
def Ur:List GA:=[GQ EL [] ZV,(Cy,Ai AI 20 [] TX,Cs AI 20 [] jR),(CS,Ai AI 20 [] VV,Cs AI 20 [] jo),
 (DQ,Ai AI 20 [true] (CX 20 (HK fun m=>m.b.length)),Cs AI 20 [true] (CX 20 oa)),GQ By [true] (CX 20 Pv),
 (CI,Ai AI 20 [true] (CX 20 (TB Cn fun _=>false)),Cs AI 20 [true] (CX 20 iT))]
theorem dr:Ci Ur:= .cons bw <| .OG Ve cj <| .OG fe dV <| .OG Sz Ws <| .cons Sl <| .OG RE dU .nil
abbrev UQ:Ctx:=Bp Tryz.prog AI (Cv Ur)
abbrev JQ:EK:=[.int .u8,.int .u8,.int .u8,.bool,.bool]
abbrev B2:=Int × Int × Int × Bool × Bool
def Il (fn:FuncId) (i:Nat) (c:BT):Bool:=match c with
 | ⟨⟨f,_,_,.code (.seq (.region j _ _) _)::_,_,r,_,_⟩,cs,_⟩=> !r&&Nat.beq f fn&&Nat.beq cs.length 0&&Nat.beq j i
 | _=>false
def No:Stop:=⟨AF,0,3,21,[20],[3,5,29,30,31]⟩
def mJ:Stop:=⟨AF,0,3,21,[20],[3,5,6,7,29,30,31]⟩
def uV:Stop:=⟨AF,0,3,21,[20],[3,5,7,8,9,29,30,31]⟩
def xr (z:Nat) (L:Nat->Aw) (u:Nat->Int):AP:= .cells [At 21,Ao z (L 0).length,Ao (z+1) (L 1).length,Ao (z+2) (L 2).length,Ao (z+3) (L 3).length,Ao (z+4) (L 4).length,int (u 0),int (u 1),int (u 2),int (u 3),int (u 4)] 0 false
def Xj (L:Nat->Aw):BN:=[.vec Ah (L 0) false,.vec Ah (L 1) false,.vec Ah (L 2) false,.vec Ah (L 3) false,.vec Ah (L 4) false]
def Tu:List B9:=[.inLoop (A9 Tryz.prog AF [1,1,1,1,0,1,0,0]),.inBlock 0,.code (A9 Tryz.prog AF [1,1,1,1,1])]
def vU (p q:AW):List B9:= .code (A9 Tryz.prog AF p):: .code (A9 Tryz.prog AF q):: .inBlock 1:: .code (A9 Tryz.prog AF [1,1,1,1,0,1,0,0,1,1,1])::Tu
def pC (a b c:Int) (e f:Bool):AP:= .cells [.int .u8 a,.int .u8 b,.int .u8 c,.bool e,.bool f] 0 false
def jl (d:Ab) (L:Nat->Aw) (u:Nat->Int) (l:List B2) (k:Nat) (i:Int):BT:=
 ⟨⟨AF,EZ [(3,At 21),(5,At 22),(29,Ao 20 k),(30,int k),(31,int i)],BD AF,.code (A9 Tryz.prog AF [1,1,1,1,0,1,0,0])::Tu,[],false,.normal,none⟩,[],
  hp ([.vec JQ l true,.abs (.pack (.dev d)) false,xr 23 L u]++Xj L)⟩
def vz (d:Ab) (L:Nat->Aw) (u:Nat->Int) (l:List B2) (k:Nat) (i:Int) (a b c:Int) (e f:Bool):BT:=
 ⟨⟨AF,EZ [(3,At 21),(5,At 22),(6,int i),(7,At 23),(29,Ao 20 k),(30,int k),(31,int i)],BD AF,vU [1,1,1,1,0,1,0,0,1,1,0,0,1,0] [1,1,1,1,0,1,0,0,1,1,0,0,1,1],[],false,.normal,none⟩,[],
  hp ([.vec JQ l true,.abs (.pack (.dev d)) false,xr 24 L u,pC a b c e f]++Xj L)⟩
def TW (d:Ab) (L:Nat->Aw) (u:Nat->Int) (l:List B2) (k:Nat) (i:Int) (a b c:Int) (e f:Bool) (s kd q:Int) (ky vl:As):BT:=
 ⟨⟨AF,EZ [(3,At 21),(5,At 22),(7,At 23),(8,At 24),(9,int s),(29,Ao 20 k),(30,int k),(31,int i)],BD AF,vU [1,1,1,1,0,1,0,0,1,1,0,0,1,1,1,1,0] [1,1,1,1,0,1,0,0,1,1,0,0,1,1,1,1,1],[],false,.normal,none⟩,[],
  hp ([.vec JQ l true,.abs (.pack (.dev d)) false,xr 25 L u,pC a b c e f,.cells [int kd,int q,.string ky,.string vl] 0 false]++Xj L)⟩
theorem uT (d:Ab) (L:Nat->Aw) (u:Nat->Int) (l:List B2) (k:Nat) (i:Int) (Q:Bm) (R R2:Bz):NH UQ (Ax Ur) [] AF [20] No (fun c=>No.here c) mJ (fun c=>Il AF 8 c) [] Q R R2 900 (jl d L u l k i)=(
 let a:=List.getD l (0+i.toNat) (EK.BL JQ);(bif decide (i < (k:Int))then(bif decide (0<=i)&&Nat.blt i.toNat k then(bif Nat.blt (0+i.toNat) l.length then(R2 (vz d L u l k i a.1 a.2.1 a.2.2.1 a.2.2.2.1 a.2.2.2.2))else False)else False)else(Q (At 22) [some (.vec JQ l true),some (.cells [(At 21),(Ao 23 (L 0).length),(Ao 24 (L 1).length),(Ao 25 (L 2).length),(Ao 26 (L 3).length),(Ao 27 (L 4).length),(int (u 0)),(int (u 1)),(int (u 2)),(int (u 3)),(int (u 4))] 0 false)]))):=by kernel_rfl
theorem sM (d:Ab) (L:Nat->Aw) (u:Nat->Int) (l:List B2) (k:Nat) (i:Int) (a b c:Int) (e f:Bool) (Q:Bm) (R R2:Bz):NH UQ (Ax Ur) [] AF [20] No (fun c=>No.here c) uV (fun c=>Il AF 12 c) [] Q R R2 900 (vz d L u l k i a b c e f)=(
 let O:Value:= .string ({ data:=#[97] });let N:Value:= .string ({ data:=#[98] });let M:Value:= .int IntKind.u8 (Int.tmod b 4);let K:Value:= .pointer (some ⟨23,1,none⟩);let J:Value:= .string ({ data:=#[122,45,57] });let I:Value:= .string ({ data:=#[107,101,121,46,50] });let H:=((At 29):Value);let G:=Int.tmod c 40<=Int.tmod c 40;let F:=Int.tmod c 40<=140737488355328;let y:Value:= .pointer (some ⟨29,1,none⟩);let x:Value:= .pointer (some ⟨29,2,none⟩);let w:Value:= .pointer (some ⟨29,3,none⟩);let v:=Int.tmod c 40;let r:=((int i):Value)=(int i);let p:=List.replicate v.toNat (0:Int);let o:=((.int IntKind.u8 b):Value)=(.int IntKind.u8 b);let n:=IntKind.wrap .i64 (Int.tmod a 5);let m:=(M:Value)=M;let j:=(K:Value)=K;let h:=Fy (List.take v.toNat (List.drop 0 p));let g:=IntKind.wrap .i64 (i+1);let E:Prop:=R2 (TW d L u l k i a b c e f n 1 g ({ data:=#[97] }) h);let D:Prop:=R2 (TW d L u l k i a b c e f n 1 g ({ data:=#[98] }) h);let C:Prop:=R2 (TW d L u l k i a b c e f n 1 g ({ data:=#[122,45,57] }) h);let B:Prop:=R2 (TW d L u l k i a b c e f n 2 g ({ data:=#[97] }) ({ data:=#[] }));let A:Prop:=R2 (TW d L u l k i a b c e f n 2 g ({ data:=#[98] }) ({ data:=#[] }));let z:Prop:=R2 (TW d L u l k i a b c e f n 1 g ({ data:=#[107,101,121,46,50] }) h);let t:Prop:=R2 (TW d L u l k i a b c e f n 2 g ({ data:=#[122,45,57] }) ({ data:=#[] }));let s:Prop:=R2 (TW d L u l k i a b c e f n 2 g ({ data:=#[107,101,121,46,50] }) ({ data:=#[] }));let q:=((int g):Value)=(int g);(bif Int.tmod b 4==3 then(bif decide (0<=Int.tmod c 40)&&decide G&&decide F then((J:Value)=J)/\(bif Int.tmod b 4==3 then((w:Value)=w)/\m/\o/\j/\q/\r/\(bif Nat.ble (0+v.toNat) p.length then(bif e then t else C)else False)else(bif Int.tmod b 4==2 then((x:Value)=w)/\m/\o/\j/\q/\r/\(bif Nat.ble (0+v.toNat) p.length then(bif e then t else C)else False)else(bif Int.tmod b 4==1 then((y:Value)=w)/\m/\o/\j/\q/\r/\(bif Nat.ble (0+v.toNat) p.length then(bif e then t else C)else False)else(bif Int.tmod b 4==0 then(H=w)/\m/\o/\j/\q/\r/\(bif Nat.ble (0+v.toNat) p.length then(bif e then t else C)else False)else False))))else False)else(bif Int.tmod b 4==2 then(bif decide (0<=Int.tmod c 40)&&decide G&&decide F then((I:Value)=I)/\(bif Int.tmod b 4==3 then((w:Value)=x)/\m/\o/\j/\q/\r/\(bif Nat.ble (0+v.toNat) p.length then(bif e then s else z)else False)else(bif Int.tmod b 4==2 then((x:Value)=x)/\m/\o/\j/\q/\r/\(bif Nat.ble (0+v.toNat) p.length then(bif e then s else z)else False)else(bif Int.tmod b 4==1 then((y:Value)=x)/\m/\o/\j/\q/\r/\(bif Nat.ble (0+v.toNat) p.length then(bif e then s else z)else False)else(bif Int.tmod b 4==0 then(H=x)/\m/\o/\j/\q/\r/\(bif Nat.ble (0+v.toNat) p.length then(bif e then s else z)else False)else False))))else False)else(bif Int.tmod b 4==1 then(bif decide (0<=Int.tmod c 40)&&decide G&&decide F then((N:Value)=N)/\(bif Int.tmod b 4==3 then((w:Value)=y)/\m/\o/\j/\q/\r/\(bif Nat.ble (0+v.toNat) p.length then(bif e then A else D)else False)else(bif Int.tmod b 4==2 then((x:Value)=y)/\m/\o/\j/\q/\r/\(bif Nat.ble (0+v.toNat) p.length then(bif e then A else D)else False)else(bif Int.tmod b 4==1 then((y:Value)=y)/\m/\o/\j/\q/\r/\(bif Nat.ble (0+v.toNat) p.length then(bif e then A else D)else False)else(bif Int.tmod b 4==0 then(H=y)/\m/\o/\j/\q/\r/\(bif Nat.ble (0+v.toNat) p.length then(bif e then A else D)else False)else False))))else False)else(bif Int.tmod b 4==0 then(bif decide (0<=Int.tmod c 40)&&decide G&&decide F then((O:Value)=O)/\(bif Int.tmod b 4==3 then((w:Value)=(At 29))/\m/\o/\j/\q/\r/\(bif Nat.ble (0+v.toNat) p.length then(bif e then B else E)else False)else(bif Int.tmod b 4==2 then((x:Value)=(At 29))/\m/\o/\j/\q/\r/\(bif Nat.ble (0+v.toNat) p.length then(bif e then B else E)else False)else(bif Int.tmod b 4==1 then((y:Value)=(At 29))/\m/\o/\j/\q/\r/\(bif Nat.ble (0+v.toNat) p.length then(bif e then B else E)else False)else(bif Int.tmod b 4==0 then(H=(At 29))/\m/\o/\j/\q/\r/\(bif Nat.ble (0+v.toNat) p.length then(bif e then B else E)else False)else False))))else False)else False))))):=by kernel_rfl
def Xa (o:AP) (n0 n1 n2 n3 n4:Nat) (L0 L1 L2 L3 L4:Aw) (u0 u1 u2 u3 u4:Int) (l:List B2) (k:Nat) (i:Int):BT:=
 ⟨⟨AF,EZ [(3,At 21),(5,At 22),(29,Ao 20 k),(30,int k),(31,int i)],BD AF,.code (A9 Tryz.prog AF [1,1,1,1,0,1,0,0])::Tu,[],false,.normal,none⟩,[],
  hp [.vec JQ l true,o,.cells [At 21,Ao 23 n0,Ao 24 n1,Ao 25 n2,Ao 26 n3,Ao 27 n4,int u0,int u1,int u2,int u3,int u4] 0 false,.vec Ah L0 false,.vec Ah L1 false,.vec Ah L2 false,.vec Ah L3 false,.vec Ah L4 false]⟩
theorem tn (d:Ab) (L:Nat->Aw) (u:Nat->Int) (l:List B2) (k:Nat) (i:Int) (a b c:Int) (e f:Bool) (kd q:Int) (ky vl:As) (Q:Bm) (R:Bz):Iy UQ (Ax Ur) [] AF [20] No [] Q R 900 (TW d L u l k i a b c e f 0 kd q ky vl)=(
 let p:Value:= .pointer (some ⟨22,1,none⟩);let o:=((At 22):Value)=(At 22);let n:=(L 0).length+1;let m:=IntKind.wrap .i64 (i+1);let h:=List.take (L 0).length (List.drop 0 (L 0))++[(q,ky,kd==2,0,A8 d 0,((Bu ky vl):Int))];let g:=DX d 0 (List.take (Bu ky vl) (E3 kd q ky vl));let j:AP:= .abs (Ct.pack (PL.nx { v:=int g.1,nx:=Pk.dev g.2,news:=[] })) false;((Bool.rec false (J6 vl 512==0) ((kd==1||kd==2&&Jf vl)&& !decide (q < 1)&& !decide (q > 1099511627776)&&I1 ky==0))=(true))/\(Ab.down d=false/\Ba (Ab.BB d) 0=false)/\((Bool.rec false (!decide (A8 d 0 > 8192)) (DR kd q ky vl&& !decide (0 < 0)&& !decide (0≥32)&& !decide (A8 d 0 < 0)))=(true))/\(Bu ky vl<=(E3 kd q ky vl).length)/\(bif g.1 != 0 then(R (Xa j (L 0).length (L 1).length (L 2).length (L 3).length (L 4).length (L 0) (L 1) (L 2) (L 3) (L 4) (u 0) (u 1) (u 2) (u 3) (u 4) l k m))else(bif true&&Nat.ble (0+(L 0).length) (L 0).length&&BQ 56 n then((p:Value)=p)/\o/\(((int 0):Value)=(int 0))/\o/\(bif f then(((De g.2 0).1)=(0))/\(R (Xa (.abs (Ct.pack (PL.nx { v:=int 0,nx:=Pk.dev (De g.2 0).2,news:=[] })) false) n (L 1).length (L 2).length (L 3).length (L 4).length h (L 1) (L 2) (L 3) (L 4) (Int.ofNat n) (u 1) (u 2) (u 3) (u 4) l k m))else(R (Xa j n (L 1).length (L 2).length (L 3).length (L 4).length h (L 1) (L 2) (L 3) (L 4) (u 0) (u 1) (u 2) (u 3) (u 4) l k m)))else False))):=by kernel_rfl
theorem rz (d:Ab) (L:Nat->Aw) (u:Nat->Int) (l:List B2) (k:Nat) (i:Int) (a b c:Int) (e f:Bool) (kd q:Int) (ky vl:As) (Q:Bm) (R:Bz):Iy UQ (Ax Ur) [] AF [20] No [] Q R 900 (TW d L u l k i a b c e f 1 kd q ky vl)=(
 let p:Value:= .pointer (some ⟨22,1,none⟩);let o:=((At 22):Value)=(At 22);let n:=(L 1).length+1;let m:=IntKind.wrap .i64 (i+1);let h:=List.take (L 1).length (List.drop 0 (L 1))++[(q,ky,kd==2,1,A8 d 1,((Bu ky vl):Int))];let g:=DX d 1 (List.take (Bu ky vl) (E3 kd q ky vl));let j:AP:= .abs (Ct.pack (PL.nx { v:=int g.1,nx:=Pk.dev g.2,news:=[] })) false;((Bool.rec false (J6 vl 512==0) ((kd==1||kd==2&&Jf vl)&& !decide (q < 1)&& !decide (q > 1099511627776)&&I1 ky==0))=(true))/\(Ab.down d=false/\Ba (Ab.BB d) 1=false)/\((Bool.rec false (!decide (A8 d 1 > 8192)) (DR kd q ky vl&& !decide (1 < 0)&& !decide (1≥32)&& !decide (A8 d 1 < 0)))=(true))/\(Bu ky vl<=(E3 kd q ky vl).length)/\(bif g.1 != 0 then(R (Xa j (L 0).length (L 1).length (L 2).length (L 3).length (L 4).length (L 0) (L 1) (L 2) (L 3) (L 4) (u 0) (u 1) (u 2) (u 3) (u 4) l k m))else(bif true&&Nat.ble (0+(L 1).length) (L 1).length&&BQ 56 n then((p:Value)=p)/\o/\(((int 1):Value)=(int 1))/\o/\(bif f then(((De g.2 1).1)=(0))/\(R (Xa (.abs (Ct.pack (PL.nx { v:=int 0,nx:=Pk.dev (De g.2 1).2,news:=[] })) false) (L 0).length n (L 2).length (L 3).length (L 4).length (L 0) h (L 2) (L 3) (L 4) (u 0) (Int.ofNat n) (u 2) (u 3) (u 4) l k m))else(R (Xa j (L 0).length n (L 2).length (L 3).length (L 4).length (L 0) h (L 2) (L 3) (L 4) (u 0) (u 1) (u 2) (u 3) (u 4) l k m)))else False))):=by kernel_rfl
theorem qw (d:Ab) (L:Nat->Aw) (u:Nat->Int) (l:List B2) (k:Nat) (i:Int) (a b c:Int) (e f:Bool) (kd q:Int) (ky vl:As) (Q:Bm) (R:Bz):Iy UQ (Ax Ur) [] AF [20] No [] Q R 900 (TW d L u l k i a b c e f 2 kd q ky vl)=(
 let p:Value:= .pointer (some ⟨22,1,none⟩);let o:=((At 22):Value)=(At 22);let n:=(L 2).length+1;let m:=IntKind.wrap .i64 (i+1);let h:=List.take (L 2).length (List.drop 0 (L 2))++[(q,ky,kd==2,2,A8 d 2,((Bu ky vl):Int))];let g:=DX d 2 (List.take (Bu ky vl) (E3 kd q ky vl));let j:AP:= .abs (Ct.pack (PL.nx { v:=int g.1,nx:=Pk.dev g.2,news:=[] })) false;((Bool.rec false (J6 vl 512==0) ((kd==1||kd==2&&Jf vl)&& !decide (q < 1)&& !decide (q > 1099511627776)&&I1 ky==0))=(true))/\(Ab.down d=false/\Ba (Ab.BB d) 2=false)/\((Bool.rec false (!decide (A8 d 2 > 8192)) (DR kd q ky vl&& !decide (2 < 0)&& !decide (2≥32)&& !decide (A8 d 2 < 0)))=(true))/\(Bu ky vl<=(E3 kd q ky vl).length)/\(bif g.1 != 0 then(R (Xa j (L 0).length (L 1).length (L 2).length (L 3).length (L 4).length (L 0) (L 1) (L 2) (L 3) (L 4) (u 0) (u 1) (u 2) (u 3) (u 4) l k m))else(bif true&&Nat.ble (0+(L 2).length) (L 2).length&&BQ 56 n then((p:Value)=p)/\o/\(((int 2):Value)=(int 2))/\o/\(bif f then(((De g.2 2).1)=(0))/\(R (Xa (.abs (Ct.pack (PL.nx { v:=int 0,nx:=Pk.dev (De g.2 2).2,news:=[] })) false) (L 0).length (L 1).length n (L 3).length (L 4).length (L 0) (L 1) h (L 3) (L 4) (u 0) (u 1) (Int.ofNat n) (u 3) (u 4) l k m))else(R (Xa j (L 0).length (L 1).length n (L 3).length (L 4).length (L 0) (L 1) h (L 3) (L 4) (u 0) (u 1) (u 2) (u 3) (u 4) l k m)))else False))):=by kernel_rfl
theorem tv (d:Ab) (L:Nat->Aw) (u:Nat->Int) (l:List B2) (k:Nat) (i:Int) (a b c:Int) (e f:Bool) (kd q:Int) (ky vl:As) (Q:Bm) (R:Bz):Iy UQ (Ax Ur) [] AF [20] No [] Q R 900 (TW d L u l k i a b c e f 3 kd q ky vl)=(
 let p:Value:= .pointer (some ⟨22,1,none⟩);let o:=((At 22):Value)=(At 22);let n:=(L 3).length+1;let m:=IntKind.wrap .i64 (i+1);let h:=List.take (L 3).length (List.drop 0 (L 3))++[(q,ky,kd==2,3,A8 d 3,((Bu ky vl):Int))];let g:=DX d 3 (List.take (Bu ky vl) (E3 kd q ky vl));let j:AP:= .abs (Ct.pack (PL.nx { v:=int g.1,nx:=Pk.dev g.2,news:=[] })) false;((Bool.rec false (J6 vl 512==0) ((kd==1||kd==2&&Jf vl)&& !decide (q < 1)&& !decide (q > 1099511627776)&&I1 ky==0))=(true))/\(Ab.down d=false/\Ba (Ab.BB d) 3=false)/\((Bool.rec false (!decide (A8 d 3 > 8192)) (DR kd q ky vl&& !decide (3 < 0)&& !decide (3≥32)&& !decide (A8 d 3 < 0)))=(true))/\(Bu ky vl<=(E3 kd q ky vl).length)/\(bif g.1 != 0 then(R (Xa j (L 0).length (L 1).length (L 2).length (L 3).length (L 4).length (L 0) (L 1) (L 2) (L 3) (L 4) (u 0) (u 1) (u 2) (u 3) (u 4) l k m))else(bif true&&Nat.ble (0+(L 3).length) (L 3).length&&BQ 56 n then((p:Value)=p)/\o/\(((int 3):Value)=(int 3))/\o/\(bif f then(((De g.2 3).1)=(0))/\(R (Xa (.abs (Ct.pack (PL.nx { v:=int 0,nx:=Pk.dev (De g.2 3).2,news:=[] })) false) (L 0).length (L 1).length (L 2).length n (L 4).length (L 0) (L 1) (L 2) h (L 4) (u 0) (u 1) (u 2) (Int.ofNat n) (u 4) l k m))else(R (Xa j (L 0).length (L 1).length (L 2).length n (L 4).length (L 0) (L 1) (L 2) h (L 4) (u 0) (u 1) (u 2) (u 3) (u 4) l k m)))else False))):=by kernel_rfl
theorem uH (d:Ab) (L:Nat->Aw) (u:Nat->Int) (l:List B2) (k:Nat) (i:Int) (a b c:Int) (e f:Bool) (kd q:Int) (ky vl:As) (Q:Bm) (R:Bz):Iy UQ (Ax Ur) [] AF [20] No [] Q R 900 (TW d L u l k i a b c e f 4 kd q ky vl)=(
 let p:Value:= .pointer (some ⟨22,1,none⟩);let o:=((At 22):Value)=(At 22);let n:=(L 4).length+1;let m:=IntKind.wrap .i64 (i+1);let h:=List.take (L 4).length (List.drop 0 (L 4))++[(q,ky,kd==2,4,A8 d 4,((Bu ky vl):Int))];let g:=DX d 4 (List.take (Bu ky vl) (E3 kd q ky vl));let j:AP:= .abs (Ct.pack (PL.nx { v:=int g.1,nx:=Pk.dev g.2,news:=[] })) false;((Bool.rec false (J6 vl 512==0) ((kd==1||kd==2&&Jf vl)&& !decide (q < 1)&& !decide (q > 1099511627776)&&I1 ky==0))=(true))/\(Ab.down d=false/\Ba (Ab.BB d) 4=false)/\((Bool.rec false (!decide (A8 d 4 > 8192)) (DR kd q ky vl&& !decide (4 < 0)&& !decide (4≥32)&& !decide (A8 d 4 < 0)))=(true))/\(Bu ky vl<=(E3 kd q ky vl).length)/\(bif g.1 != 0 then(R (Xa j (L 0).length (L 1).length (L 2).length (L 3).length (L 4).length (L 0) (L 1) (L 2) (L 3) (L 4) (u 0) (u 1) (u 2) (u 3) (u 4) l k m))else(bif true&&Nat.ble (0+(L 4).length) (L 4).length&&BQ 56 n then((p:Value)=p)/\o/\(((int 4):Value)=(int 4))/\o/\(bif f then(((De g.2 4).1)=(0))/\(R (Xa (.abs (Ct.pack (PL.nx { v:=int 0,nx:=Pk.dev (De g.2 4).2,news:=[] })) false) (L 0).length (L 1).length (L 2).length (L 3).length n (L 0) (L 1) (L 2) (L 3) h (u 0) (u 1) (u 2) (u 3) (Int.ofNat n) l k m))else(R (Xa j (L 0).length (L 1).length (L 2).length (L 3).length n (L 0) (L 1) (L 2) (L 3) h (u 0) (u 1) (u 2) (u 3) (u 4) l k m)))else False))):=by kernel_rfl
def GR {α:Type} (L:Nat->α) (s:Nat) (x:α):Nat->α:=fun i=>bif Nat.beq i s then x else L i
structure PF where
 d:Ab
 L:Nat->Aw
 u:Nat->Int
def EF (st:PF) (s:Nat) (f:Bool) (kd q:Int) (ky vl:As):PF:=
 bif (DX st.d (s:Int) (E3 kd q ky vl)).1 != 0 then⟨(DX st.d (s:Int) (E3 kd q ky vl)).2,st.L,st.u⟩else
 bif f then⟨(De (DX st.d (s:Int) (E3 kd q ky vl)).2 (s:Int)).2,GR st.L s (st.L s++[(q,ky,kd==2,(s:Int),A8 st.d (s:Int),((Bu ky vl:Nat):Int))]),GR st.u s (Int.ofNat (st.L s++[(q,ky,kd==2,(s:Int),A8 st.d (s:Int),((Bu ky vl:Nat):Int))]).length)⟩
 else⟨(DX st.d (s:Int) (E3 kd q ky vl)).2,GR st.L s (st.L s++[(q,ky,kd==2,(s:Int),A8 st.d (s:Int),((Bu ky vl:Nat):Int))]),st.u⟩
structure P7 (st:PF) (s:Nat) (f:Bool) (kd q:Int) (ky vl:As):Prop where
 ok:DR kd q ky vl=true
 dn:st.d.down=false
 bad:Ba st.d.BB (s:Int)=false
 GQ:L6 kd q ky vl (s:Int) (A8 st.d (s:Int))=true
 y4:((DX st.d (s:Int) (E3 kd q ky vl)).1 != 0)=false->f=true->(De (DX st.d (s:Int) (E3 kd q ky vl)).2 (s:Int)).1=0
 ln:(st.L s).length < 1000
theorem NW (A B:Bool) (h:(A&&B)=true):(Bool.rec (motive:=fun _=>Bool) false B A)=true:=by
 cases A<;>exact h
theorem KI (A B:Bool) (h:(A&&B)=true):(Bool.rec (motive:=fun _=>Bool) false B A)=true:=by
 cases A<;>exact h
theorem F0 (d:Ab) (L:Nat->Aw) (u:Nat->Int) (l:List B2) (k:Nat) (i:Int):Xa (.abs (.pack (.dev d)) false) (L 0).length (L 1).length (L 2).length (L 3).length (L 4).length (L 0) (L 1) (L 2) (L 3) (L 4) (u 0) (u 1) (u 2) (u 3) (u 4) l k i=jl d L u l k i:=by kernel_rfl
theorem mv {st:PF} {l:List B2} {k i:Nat} {a b c:Int} {e f:Bool} {kd q:Int} {ky vl:As} (h:P7 st 0 f kd q ky vl) (hi:i < 1000):Iy UQ (Ax Ur) [] AF [20] No [] (fun _ _=>False) (fun c=>c=jl (EF st 0 f kd q ky vl).d (EF st 0 f kd q ky vl).L (EF st 0 f kd q ky vl).u l k ((i+1:Nat):Int)) 900 (TW st.d st.L st.u l k (i:Nat) a b c e f (((0:Nat)):Int) kd q ky vl):=by
 have hw:IntKind.wrap .i64 ((i:Int)+1)=((i+1:Nat):Int):=by rw[wrap64 (by omega) (by omega)];rfl
 have hz:(((0:Nat)):Int)=0:=rfl;obtain⟨h1,h2,h3,h4,h5,h6⟩:=h;obtain⟨d,L,u⟩:=st
 change (L 0).length < 1000 at h6
 rw[hz]at h3 h4 h5 ⊢;rw[tn];(conv=>zeta);rw[hw]
 have et:List.take (Bu ky vl) (E3 kd q ky vl)=E3 kd q ky vl:=Pb (by rw[E9];exact CC _);have eL:List.take (L 0).length (List.drop 0 (L 0))=L 0:=by rw[O9,Pb (CC _)]
 rw[et,eL];refine⟨NW _ _ h1,⟨h2,h3⟩,KI _ _ h4,by rw[E9];exact CC _,?_⟩;have hc:(true&&Nat.ble (0+(L 0).length) (L 0).length&&BQ 56 ((L 0).length+1))=true:=by
  rw[Hq,B0 (CC _),Lu (by omega)];rfl
 have hlen:(L 0).length+1=(L 0++[(q,ky,kd==2,0,A8 d 0,((Bu ky vl:Nat):Int))]).length:=by rw[Fu];rfl
 unfold EF;rw[hz];refine BX (fun c1=>?_) fun c1=>AB hc ⟨rfl,rfl,rfl,rfl,BX (fun c2=>⟨h5 c1 c2,?_⟩) fun c2=>?_⟩
 ·rw[c1];exact F0 _ L u l k _
 ·rw[c1,c2,hlen];exact F0 _ (GR L 0 _) (GR u 0 _) l k _
 ·rw[c1,c2,hlen];exact F0 _ (GR L 0 _) u l k _
theorem mL {st:PF} {l:List B2} {k i:Nat} {a b c:Int} {e f:Bool} {kd q:Int} {ky vl:As} (h:P7 st 1 f kd q ky vl) (hi:i < 1000):Iy UQ (Ax Ur) [] AF [20] No [] (fun _ _=>False) (fun c=>c=jl (EF st 1 f kd q ky vl).d (EF st 1 f kd q ky vl).L (EF st 1 f kd q ky vl).u l k ((i+1:Nat):Int)) 900 (TW st.d st.L st.u l k (i:Nat) a b c e f (((1:Nat)):Int) kd q ky vl):=by
 have hw:IntKind.wrap .i64 ((i:Int)+1)=((i+1:Nat):Int):=by rw[wrap64 (by omega) (by omega)];rfl
 have hz:(((1:Nat)):Int)=1:=rfl;obtain⟨h1,h2,h3,h4,h5,h6⟩:=h;obtain⟨d,L,u⟩:=st
 change (L 1).length < 1000 at h6
 rw[hz]at h3 h4 h5 ⊢;rw[rz];(conv=>zeta);rw[hw]
 have et:List.take (Bu ky vl) (E3 kd q ky vl)=E3 kd q ky vl:=Pb (by rw[E9];exact CC _);have eL:List.take (L 1).length (List.drop 0 (L 1))=L 1:=by rw[O9,Pb (CC _)]
 rw[et,eL];refine⟨NW _ _ h1,⟨h2,h3⟩,KI _ _ h4,by rw[E9];exact CC _,?_⟩;have hc:(true&&Nat.ble (0+(L 1).length) (L 1).length&&BQ 56 ((L 1).length+1))=true:=by
  rw[Hq,B0 (CC _),Lu (by omega)];rfl
 have hlen:(L 1).length+1=(L 1++[(q,ky,kd==2,1,A8 d 1,((Bu ky vl:Nat):Int))]).length:=by rw[Fu];rfl
 unfold EF;rw[hz];refine BX (fun c1=>?_) fun c1=>AB hc ⟨rfl,rfl,rfl,rfl,BX (fun c2=>⟨h5 c1 c2,?_⟩) fun c2=>?_⟩
 ·rw[c1];exact F0 _ L u l k _
 ·rw[c1,c2,hlen];exact F0 _ (GR L 1 _) (GR u 1 _) l k _
 ·rw[c1,c2,hlen];exact F0 _ (GR L 1 _) u l k _
theorem oT {st:PF} {l:List B2} {k i:Nat} {a b c:Int} {e f:Bool} {kd q:Int} {ky vl:As} (h:P7 st 2 f kd q ky vl) (hi:i < 1000):Iy UQ (Ax Ur) [] AF [20] No [] (fun _ _=>False) (fun c=>c=jl (EF st 2 f kd q ky vl).d (EF st 2 f kd q ky vl).L (EF st 2 f kd q ky vl).u l k ((i+1:Nat):Int)) 900 (TW st.d st.L st.u l k (i:Nat) a b c e f (((2:Nat)):Int) kd q ky vl):=by
 have hw:IntKind.wrap .i64 ((i:Int)+1)=((i+1:Nat):Int):=by rw[wrap64 (by omega) (by omega)];rfl
 have hz:(((2:Nat)):Int)=2:=rfl;obtain⟨h1,h2,h3,h4,h5,h6⟩:=h;obtain⟨d,L,u⟩:=st
 change (L 2).length < 1000 at h6
 rw[hz]at h3 h4 h5 ⊢;rw[qw];(conv=>zeta);rw[hw]
 have et:List.take (Bu ky vl) (E3 kd q ky vl)=E3 kd q ky vl:=Pb (by rw[E9];exact CC _);have eL:List.take (L 2).length (List.drop 0 (L 2))=L 2:=by rw[O9,Pb (CC _)]
 rw[et,eL];refine⟨NW _ _ h1,⟨h2,h3⟩,KI _ _ h4,by rw[E9];exact CC _,?_⟩;have hc:(true&&Nat.ble (0+(L 2).length) (L 2).length&&BQ 56 ((L 2).length+1))=true:=by
  rw[Hq,B0 (CC _),Lu (by omega)];rfl
 have hlen:(L 2).length+1=(L 2++[(q,ky,kd==2,2,A8 d 2,((Bu ky vl:Nat):Int))]).length:=by rw[Fu];rfl
 unfold EF;rw[hz];refine BX (fun c1=>?_) fun c1=>AB hc ⟨rfl,rfl,rfl,rfl,BX (fun c2=>⟨h5 c1 c2,?_⟩) fun c2=>?_⟩
 ·rw[c1];exact F0 _ L u l k _
 ·rw[c1,c2,hlen];exact F0 _ (GR L 2 _) (GR u 2 _) l k _
 ·rw[c1,c2,hlen];exact F0 _ (GR L 2 _) u l k _
theorem nh {st:PF} {l:List B2} {k i:Nat} {a b c:Int} {e f:Bool} {kd q:Int} {ky vl:As} (h:P7 st 3 f kd q ky vl) (hi:i < 1000):Iy UQ (Ax Ur) [] AF [20] No [] (fun _ _=>False) (fun c=>c=jl (EF st 3 f kd q ky vl).d (EF st 3 f kd q ky vl).L (EF st 3 f kd q ky vl).u l k ((i+1:Nat):Int)) 900 (TW st.d st.L st.u l k (i:Nat) a b c e f (((3:Nat)):Int) kd q ky vl):=by
 have hw:IntKind.wrap .i64 ((i:Int)+1)=((i+1:Nat):Int):=by rw[wrap64 (by omega) (by omega)];rfl
 have hz:(((3:Nat)):Int)=3:=rfl;obtain⟨h1,h2,h3,h4,h5,h6⟩:=h;obtain⟨d,L,u⟩:=st
 change (L 3).length < 1000 at h6
 rw[hz]at h3 h4 h5 ⊢;rw[tv];(conv=>zeta);rw[hw]
 have et:List.take (Bu ky vl) (E3 kd q ky vl)=E3 kd q ky vl:=Pb (by rw[E9];exact CC _);have eL:List.take (L 3).length (List.drop 0 (L 3))=L 3:=by rw[O9,Pb (CC _)]
 rw[et,eL];refine⟨NW _ _ h1,⟨h2,h3⟩,KI _ _ h4,by rw[E9];exact CC _,?_⟩;have hc:(true&&Nat.ble (0+(L 3).length) (L 3).length&&BQ 56 ((L 3).length+1))=true:=by
  rw[Hq,B0 (CC _),Lu (by omega)];rfl
 have hlen:(L 3).length+1=(L 3++[(q,ky,kd==2,3,A8 d 3,((Bu ky vl:Nat):Int))]).length:=by rw[Fu];rfl
 unfold EF;rw[hz];refine BX (fun c1=>?_) fun c1=>AB hc ⟨rfl,rfl,rfl,rfl,BX (fun c2=>⟨h5 c1 c2,?_⟩) fun c2=>?_⟩
 ·rw[c1];exact F0 _ L u l k _
 ·rw[c1,c2,hlen];exact F0 _ (GR L 3 _) (GR u 3 _) l k _
 ·rw[c1,c2,hlen];exact F0 _ (GR L 3 _) u l k _
theorem nj {st:PF} {l:List B2} {k i:Nat} {a b c:Int} {e f:Bool} {kd q:Int} {ky vl:As} (h:P7 st 4 f kd q ky vl) (hi:i < 1000):Iy UQ (Ax Ur) [] AF [20] No [] (fun _ _=>False) (fun c=>c=jl (EF st 4 f kd q ky vl).d (EF st 4 f kd q ky vl).L (EF st 4 f kd q ky vl).u l k ((i+1:Nat):Int)) 900 (TW st.d st.L st.u l k (i:Nat) a b c e f (((4:Nat)):Int) kd q ky vl):=by
 have hw:IntKind.wrap .i64 ((i:Int)+1)=((i+1:Nat):Int):=by rw[wrap64 (by omega) (by omega)];rfl
 have hz:(((4:Nat)):Int)=4:=rfl;obtain⟨h1,h2,h3,h4,h5,h6⟩:=h;obtain⟨d,L,u⟩:=st
 change (L 4).length < 1000 at h6
 rw[hz]at h3 h4 h5 ⊢;rw[uH];(conv=>zeta);rw[hw]
 have et:List.take (Bu ky vl) (E3 kd q ky vl)=E3 kd q ky vl:=Pb (by rw[E9];exact CC _);have eL:List.take (L 4).length (List.drop 0 (L 4))=L 4:=by rw[O9,Pb (CC _)]
 rw[et,eL];refine⟨NW _ _ h1,⟨h2,h3⟩,KI _ _ h4,by rw[E9];exact CC _,?_⟩;have hc:(true&&Nat.ble (0+(L 4).length) (L 4).length&&BQ 56 ((L 4).length+1))=true:=by
  rw[Hq,B0 (CC _),Lu (by omega)];rfl
 have hlen:(L 4).length+1=(L 4++[(q,ky,kd==2,4,A8 d 4,((Bu ky vl:Nat):Int))]).length:=by rw[Fu];rfl
 unfold EF;rw[hz];refine BX (fun c1=>?_) fun c1=>AB hc ⟨rfl,rfl,rfl,rfl,BX (fun c2=>⟨h5 c1 c2,?_⟩) fun c2=>?_⟩
 ·rw[c1];exact F0 _ L u l k _
 ·rw[c1,c2,hlen];exact F0 _ (GR L 4 _) (GR u 4 _) l k _
 ·rw[c1,c2,hlen];exact F0 _ (GR L 4 _) u l k _
def rl (n s:Int):Ab:=⟨(nf n.toNat s).map fun a=>⟨a,0,[]⟩,none,n,0,false⟩
def Mc (m:Nat):Nat:=Int.toNat (if (50:Int) < Int.ofNat m then 50 else Int.ofNat m) - 0
def yC (d:Ab) (l:List B2) (k:Nat):BT:=
 ⟨⟨AF,EZ [(3,At 21),(5,At 22),(29,Ao 20 k),(30,int k),(31,int 0)],BD AF,.code (A9 Tryz.prog AF [1,1,1,1,0,1,0,0])::Tu,[],false,.normal,none⟩,[],
  hp [.vec JQ l true,.abs (.pack (.dev d)) false,.cells [At 21,.slice none 0 0,.slice none 0 0,.slice none 0 0,.slice none 0 0,.slice none 0 0,int 0,int 0,int 0,int 0,int 0] 0 false]⟩
theorem ti (l:List B2) (m:Nat) (Q:Bm) (R:Bz):Iy UQ (Ax Ur) [] AF [20] No [] Q R 900 (st AF [Ao 20 m] (hp [.vec JQ l true]))=(
 let a:=if 50 < Int.ofNat m then 50 else Int.ofNat m;((2:Int)<=5/\(5:Int)<=32/\(1:Int)<=600/\(600:Int)<=8192)/\(bif decide (0<=if 50 < Int.ofNat m then 50 else Int.ofNat m)&&Nat.ble a.toNat m&&decide (0<=0)&&Nat.ble 0 a.toNat then(R (yC (rl 5 600) l (Mc m)))else False)):=by kernel_rfl
def Fq (m:Int):As:=if m=0 then { data:=#[97] } else if m=1 then { data:=#[98] } else if m=2 then { data:=#[107,101,121,46,50] } else { data:=#[122,45,57] }
def ZG (c:Int):As:=Fy (List.take (Int.toNat (Int.tmod c 40)) (List.drop 0 (List.replicate (Int.toNat (Int.tmod c 40)) (0:Int))))
structure Ld (p:B2):Prop where
 a0:0<=p.1
 a1:p.1 < 256
 b0:0<=p.2.1
 b1:p.2.1 < 256
 c0:0<=p.2.2.1
 c1:p.2.2.1 < 256
def DZ (p:B2):Nat:=(Int.tmod p.1 5).toNat
def M1 (p:B2):Int:=bif p.2.2.2.1 then 2 else 1
def LO (p:B2):As:=bif p.2.2.2.1 then { data:=#[] } else ZG p.2.2.1
theorem MJ {b m:Int} (h0:0<=b) (hn:0 < m):0<=Int.tmod b m/\Int.tmod b m < m:=by
 rw[fj h0];exact⟨Int.emod_nonneg _ (by omega),Int.emod_lt_of_pos _ hn⟩
theorem js {d:Ab} {L:Nat->Aw} {u:Nat->Int} {l:List B2} {k:Nat} {i:Int} {p:B2} (hp:Ld p):
 NH UQ (Ax Ur) [] AF [20] No (fun c=>No.here c) uV (fun c=>Il AF 12 c) [] (fun _ _=>False) (fun _=>False) (fun c=>c=TW d L u l k i p.1 p.2.1 p.2.2.1 p.2.2.2.1 p.2.2.2.2 ((DZ p:Nat):Int) (M1 p) (IntKind.wrap .i64 (i+1)) (Fq (Int.tmod p.2.1 4)) (LO p)) 900 (vz d L u l k i p.1 p.2.1 p.2.2.1 p.2.2.2.1 p.2.2.2.2):=by
 obtain⟨a,b,c,e,f⟩:=p;obtain⟨a0,a1,b0,b1,c0,c1⟩:=hp;simp only at a0 a1 b0 b1 c0 c1;obtain⟨m0,m1⟩:=MJ (m:=4) b0 (by decide);obtain⟨n0,n1⟩:=MJ (m:=40) c0 (by decide);obtain⟨r0,r1⟩:=MJ (m:=5) a0 (by decide);have hs:IntKind.wrap .i64 (Int.tmod a 5)=((DZ (a,b,c,e,f):Nat):Int):=by
  unfold DZ;rw[wrap64 (by omega) (by omega)];show Int.tmod a 5=(((Int.tmod a 5).toNat:Nat):Int);omega
 rw[sM];(conv=>zeta);rw[hs]
 have t1:(decide (0<=Int.tmod c 40)&&decide (Int.tmod c 40<=Int.tmod c 40)&&decide (Int.tmod c 40<=140737488355328))=true:=by
  rw[Fp n0,Fp (ld _),Fp (show Int.tmod c 40<=140737488355328 by omega)];rfl
 have t2:Nat.ble (0+Int.toNat (Int.tmod c 40)) (List.length (List.replicate (Int.toNat (Int.tmod c 40)) (0:Int)))=true:=by
  rw[BG,Hq];exact B0 (CC _)
 rw[t1,t2];rcases(show Int.tmod b 4=0∨Int.tmod b 4=1∨Int.tmod b 4=2∨Int.tmod b 4=3 by omega)with hb | hb | hb | hb
 all_goals
  rw[hb];show bif _ then _ else _
  cases e
  all_goals
   repeat' first
    | exact rfl
    | refine⟨rfl,?_⟩
    | refine AZ rfl ?_
    | refine AB rfl ?_
theorem tk (d:Ab) (L:Nat->Aw) (u:Nat->Int) (l:List B2) (k:Nat) (i:Int) (Q:Bm) (R R2:Bz):NH UQ (Ax Ur) [] AF [20,21,23,24,25,26,27] No (fun c=>No.here c) mJ (fun c=>Il AF 8 c) [] Q R R2 900 (jl d L u l k i)=(
 let a:=List.getD l (0+i.toNat) (EK.BL JQ);(bif decide (i < (k:Int))then(bif decide (0<=i)&&Nat.blt i.toNat k then(bif Nat.blt (0+i.toNat) l.length then(R2 (vz d L u l k i a.1 a.2.1 a.2.2.1 a.2.2.2.1 a.2.2.2.2))else False)else False)else(Q (At 22) [some (.vec JQ l true),some (.abs (Ct.pack (Pk.dev d)) false),some (.vec Ah (L 0) false),some (.vec Ah (L 1) false),some (.vec Ah (L 2) false),some (.vec Ah (L 3) false),some (.vec Ah (L 4) false),some (.cells [(At 21),(Ao 23 (L 0).length),(Ao 24 (L 1).length),(Ao 25 (L 2).length),(Ao 26 (L 3).length),(Ao 27 (L 4).length),(int (u 0)),(int (u 1)),(int (u 2)),(int (u 3)),(int (u 4))] 0 false)]))):=by kernel_rfl
def PJ (l:List B2) (i:Nat):B2:=List.getD l i (EK.BL JQ)
def QP (st:PF) (i:Nat) (p:B2):PF:=EF st (DZ p) p.2.2.2.2 (M1 p) ((i+1:Nat):Int) (Fq (Int.tmod p.2.1 4)) (LO p)
def VB (st:PF) (i:Nat) (p:B2):Prop:=Ld p/\P7 st (DZ p) p.2.2.2.2 (M1 p) ((i+1:Nat):Int) (Fq (Int.tmod p.2.1 4)) (LO p)
def Eo (l:List B2):Nat->Nat->PF->PF
 | 0,_,st=>st
 | n+1,i,st=>Eo l n (i+1) (QP st i (PJ l i))
def WI (l:List B2):Nat->Nat->PF->Prop
 | 0,_,_=>True
 | n+1,i,st=>VB st i (PJ l i)/\WI l n (i+1) (QP st i (PJ l i))
def Oo:PF:=⟨rl 5 600,fun _=>[],fun _=>0⟩
def sa (st:PF) (l:List B2):LR:=[some (.vec JQ l true),some (.abs (.pack (.dev st.d)) false),some (.vec Ah (st.L 0) false),some (.vec Ah (st.L 1) false),some (.vec Ah (st.L 2) false),some (.vec Ah (st.L 3) false),some (.vec Ah (st.L 4) false),some (xr 23 st.L st.u)]
def qj (st:PF) (l:List B2) (v:Value) (H:AA):Prop:=v=At 22/\[20,21,23,24,25,26,27,22].map H.get=sa st l
theorem bD {p:B2} (h:Ld p):DZ p < 5:=by
 obtain⟨r0,r1⟩:=MJ (m:=5) h.a0 (by decide);unfold DZ;omega
theorem tx {s:Nat} (hs:s < 5) {st:PF} {l:List B2} {k i:Nat} {a b c:Int} {e f:Bool} {kd q:Int} {ky vl:As} (h:P7 st s f kd q ky vl) (hi:i < 1000):Iy UQ (Ax Ur) [] AF [20] No [] (fun _ _=>False) (fun c=>c=jl (EF st s f kd q ky vl).d (EF st s f kd q ky vl).L (EF st s f kd q ky vl).u l k ((i+1:Nat):Int)) 900 (TW st.d st.L st.u l k (i:Nat) a b c e f ((s:Nat):Int) kd q ky vl):=by
 match s,hs,h with
 | 0,_,h=>exact mv h hi
 | 1,_,h=>exact mL h hi
 | 2,_,h=>exact oT h hi
 | 3,_,h=>exact nh h hi
 | 4,_,h=>exact nj h hi
 | s+5,hs,_=>exact absurd hs (by omega)
theorem mj {l:List B2} {k:Nat} (hk:k<=l.length) (hk2:k<=50):∀(n i:Nat) (st:PF),k - i=n->i<=k->WI l n i st->AX UQ 21 AF (qj (Eo l n i st) l) (jl st.d st.L st.u l k (i:Nat)):=by
 intro n;induction n with
 | zero=>
  intro i st hn hi _;refine IH dr.pf (M:=21) (S:=No) (S2:=mJ) (h1:=fun c=>No.here c) (h2:=fun c=>Il AF 8 c) (ks:=[]) (hs:=[]) (ids:=[20,21,23,24,25,26,27]) (by kernel_rfl) (by decide) (by decide) (Q:=fun v os=>v=At 22/\os=sa st l) (R:=fun _=>False) (R2:=fun _=>False) (fun v H hq=>?_) (fun c h=>h.elim) (fun c h=>h.elim) 900 _ ?_
  ·obtain⟨rfl,hos⟩:=hq;exact⟨rfl,hos⟩
  ·rw[tk];exact AZ (GP (by omega)) ⟨rfl,rfl⟩
 | succ n ih=>
  intro i st hn hi hall;obtain⟨⟨hp,h1⟩,h2⟩:=hall;have hik:i < k:=by omega
  refine IH dr.pf (M:=21) (S:=No) (S2:=mJ) (h1:=fun c=>No.here c) (h2:=fun c=>Il AF 8 c) (ks:=[]) (hs:=[]) (ids:=[20]) (by kernel_rfl) (by decide) (by decide) (Q:=fun _ _=>False) (R:=fun _=>False) (R2:=fun c=>c=vz st.d st.L st.u l k (i:Nat) (PJ l i).1 (PJ l i).2.1 (PJ l i).2.2.1 (PJ l i).2.2.2.1 (PJ l i).2.2.2.2) (fun v H h=>h.elim) (fun c h=>h.elim) (fun c hc=>?_) 900 _ ?_
  ·rw[hc];refine IH dr.pf (M:=21) (S:=No) (S2:=uV) (h1:=fun c=>No.here c) (h2:=fun c=>Il AF 12 c) (ks:=[]) (hs:=[]) (ids:=[20]) (by kernel_rfl) (by decide) (by decide) (Q:=fun _ _=>False) (R:=fun _=>False) (R2:=_) (fun v H h=>h.elim) (fun c h=>h.elim) (fun c hc=>?_) 900 _ (js hp);rw[hc];have hw:IntKind.wrap .i64 ((i:Int)+1)=((i+1:Nat):Int):=by rw[wrap64 (by omega) (by omega)];rfl
   rw[hw];refine Bq dr.pf [] [20] No [] (by kernel_rfl) (show 21<=21 from CC _) (fun _ _=>False) _ (fun v H h=>h.elim) (fun c hc=>?_) (n:=900) (tx (bD hp) h1 (by omega));rw[hc];exact ih (i+1) _ (by omega) (by omega) h2
  ·rw[uT];(conv=>zeta)
   simp only[HR,Hq];exact AB (Fp (by omega)) (AB (EI hik) (AB (Gc (by omega)) rfl))
def xy (args:AL) (objs:BN):GT:=match args,objs with
 | [.slice (some ⟨20,0,some 0⟩) m 18446744073709551616],[.vec [.int .u8,.int .u8,.int .u8,.bool,.bool] l _]=> .ask (m=l.length/\WI l (Mc m) 0 Oo) (.ret ⟨At 21,[],[.cells [At 22,Ao 23 ((Eo l (Mc m) 0 Oo).L 0).length,Ao 24 ((Eo l (Mc m) 0 Oo).L 1).length,Ao 25 ((Eo l (Mc m) 0 Oo).L 2).length,Ao 26 ((Eo l (Mc m) 0 Oo).L 3).length,Ao 27 ((Eo l (Mc m) 0 Oo).L 4).length,int ((Eo l (Mc m) 0 Oo).u 0),int ((Eo l (Mc m) 0 Oo).u 1),int ((Eo l (Mc m) 0 Oo).u 2),int ((Eo l (Mc m) 0 Oo).u 3),int ((Eo l (Mc m) 0 Oo).u 4)] 0 false,
  .abs (.pack (.dev (Eo l (Mc m) 0 Oo).d)) false,.vec Ah ((Eo l (Mc m) 0 Oo).L 0) false,.vec Ah ((Eo l (Mc m) 0 Oo).L 1) false,.vec Ah ((Eo l (Mc m) 0 Oo).L 2) false,.vec Ah ((Eo l (Mc m) 0 Oo).L 3) false,.vec Ah ((Eo l (Mc m) 0 Oo).L 4) false]⟩)
 | _,_=> .fail
theorem jZ {d:Ab} {l:List B2} {k:Nat} {Q:Ih} (hT:AX UQ 21 AF Q (jl d (fun _=>[]) (fun _=>0) l k ((0:Nat):Int))):AX UQ 21 AF Q (yC d l k):=by
 refine A5.Gh 22 5 Ah [At 21] [.slice none 0 0,.slice none 0 0,.slice none 0 0,.slice none 0 0,int 0,int 0,int 0,int 0,int 0] (e:=0) (ro:=false) (b':=22) (o:=0) (s:=none) (by kernel_rfl) (by kernel_rfl) (by kernel_rfl) (by kernel_rfl) (by decide) ?_;refine A5.Gh 22 5 Ah [At 21,Ao 23 0] [.slice none 0 0,.slice none 0 0,.slice none 0 0,int 0,int 0,int 0,int 0,int 0] (e:=0) (ro:=false) (b':=22) (o:=0) (s:=none) (by kernel_rfl) (by kernel_rfl) (by kernel_rfl) (by kernel_rfl) (by decide) ?_;refine A5.Gh 22 5 Ah [At 21,Ao 23 0,Ao 24 0] [.slice none 0 0,.slice none 0 0,int 0,int 0,int 0,int 0,int 0] (e:=0) (ro:=false) (b':=22) (o:=0) (s:=none) (by kernel_rfl) (by kernel_rfl) (by kernel_rfl) (by kernel_rfl) (by decide) ?_;refine A5.Gh 22 5 Ah [At 21,Ao 23 0,Ao 24 0,Ao 25 0] [.slice none 0 0,int 0,int 0,int 0,int 0,int 0] (e:=0) (ro:=false) (b':=22) (o:=0) (s:=none) (by kernel_rfl) (by kernel_rfl) (by kernel_rfl) (by kernel_rfl) (by decide) ?_;refine A5.Gh 22 5 Ah [At 21,Ao 23 0,Ao 24 0,Ao 25 0,Ao 26 0] [int 0,int 0,int 0,int 0,int 0] (e:=0) (ro:=false) (b':=22) (o:=0) (s:=none) (by kernel_rfl) (by kernel_rfl) (by kernel_rfl) (by kernel_rfl) (by decide) ?_;refine cast ?_ hT;kernel_rfl
theorem Xn (m:Nat):Mc m<=m/\Mc m<=50:=by
 unfold Mc;split
 ·rename_i h;have h:(50:Int) < (m:Int):=h;show Int.toNat 50 - 0<=m/\Int.toNat 50 - 0<=50;have:Int.toNat 50=50:=rfl;omega
 ·rename_i h;have h:¬(50:Int) < (m:Int):=h;show m - 0<=m/\m - 0<=50;omega
theorem vQ (m:Nat):(decide ((0:Int)<=if (50:Int) < Int.ofNat m then 50 else Int.ofNat m)&&Nat.ble (Int.toNat (if (50:Int) < Int.ofNat m then 50 else Int.ofNat m)) m&&decide ((0:Nat)<=0)&&Nat.ble 0 (Int.toNat (if (50:Int) < Int.ofNat m then 50 else Int.ofNat m)))=true:=by
 have h1:Int.toNat (if (50:Int) < Int.ofNat m then 50 else Int.ofNat m)<=m:=(Xn m).1;have h0:(0:Int)<=if (50:Int) < Int.ofNat m then 50 else Int.ofNat m:=by
  split
  ·decide
  ·exact WQ m
 rw[Fp h0,B0 h1,B0 (PM _)];rfl
theorem gH:CY Tryz.prog AI AF (Ai AI 20 [] xy):=by
 refine BF dr.all (by kernel_rfl) (n:=BD AF) (by kernel_rfl) (by kernel_rfl) fun argsc objs x hx hro=>?_
 clear hro;unfold xy at hx;split at hx
 ·rename_i m l ro;simp only[GT.run]at hx;split at hx
  ·rename_i hp0;cases hx
   obtain⟨rfl,hall⟩:=hp0;generalize hst:Eo l (Mc l.length) 0 Oo=st;refine⟨VC (by kernel_rfl),Ak.mono (AX.Fh (Q:=qj st l) ?_) ?_⟩
   ·obtain⟨k1,k2⟩:=Xn l.length;refine Bq dr.pf [] [20] No [] (by kernel_rfl) (show 21<=21 from CC _) (fun _ _=>False) (fun c=>c=yC (rl 5 600) l (Mc l.length)) (fun v H h=>h.elim) (fun c hc=>?_) (n:=900) (c:=Go.AD.st AF [Ao 20 l.length] (hp [.vec JQ l true])) ?_
    ·rw[hc];have:=mj (l:=l) (k:=Mc l.length) k1 k2 _ 0 Oo rfl (PM _) hall;rw[vI,hst]at this;exact jZ this
    ·rw[ti];exact⟨by decide,AB (vQ _) rfl⟩
   ·rintro v H ⟨rfl,hos⟩;unfold sa at hos;simp only[X5,iR,JB,dM]at hos;obtain⟨g20,g21,g23,g24,g25,g26,g27,g22⟩:=hos;refine⟨[22,21,23,24,25,26,27],by decide,fun b hb=>?_,rfl,rfl,fun j b o hj ho=>?_,fun j o hj=>?_⟩
    ·simp only[WL,Yk,lG]at hb;show 21<=b;omega
    ·match j,hj,ho with
     | 0,hj,ho=>cases hj;cases ho;exact⟨_,rfl,g22⟩
     | 1,hj,ho=>cases hj;cases ho;exact⟨_,rfl,g21⟩
     | 2,hj,ho=>cases hj;cases ho;exact⟨_,rfl,g23⟩
     | 3,hj,ho=>cases hj;cases ho;exact⟨_,rfl,g24⟩
     | 4,hj,ho=>cases hj;cases ho;exact⟨_,rfl,g25⟩
     | 5,hj,ho=>cases hj;cases ho;exact⟨_,rfl,g26⟩
     | 6,hj,ho=>cases hj;cases ho;exact⟨_,rfl,g27⟩
     | j+7,hj,_=>cases hj
    ·intro hm;cases hm
  ·cases hx
 ·cases hx
end Go.AD
namespace Go.AD
open Go.Proofs
end Go.AD
namespace Go.AD
open Go.Proofs
structure PR (l1 l2:Aw) (n m:Nat):Prop where
 h1:n<=l1.length
 h2:m<=l2.length
 e:l1.take n=l2.take m
 hb:n < 100000
theorem PR.len {l1 l2:Aw} {n m:Nat} (h:PR l1 l2 n m):n=m:=by
 have:=congrArg List.length h.e;rw[IP,IP]at this;have:=h.h1;have:=h.h2;omega
theorem PR.at {l1 l2:Aw} {n m i:Nat} (h:PR l1 l2 n m) (hi:i < n):List.getD l1 i (EK.BL Ah)=List.getD l2 i (EK.BL Ah):=by
 have e:=congrArg (fun l=>l[i]?) h.e;simp only[Yy]at e;rw[HI hi,HI (by rw[<-h.len];exact hi)]at e;rw[F5,F5,e]
end Go.AD
namespace Go.AD
inductive Qr (ops:Array Oper) (x:Nat):Nat->Prop where
 | one {o:Oper} {d:Nat} (h:ops[x]? = some o) (hd:d∈Fx o):Qr ops x d
 | more {i:Nat} {o:Oper} {d:Nat} (hi:Qr ops x i) (h:ops[i]? = some o) (hd:d∈Fx o):Qr ops x d
section
variable {X:Ctx} {μ:Ae} {H H':AA} {ops:Array Oper} {t:Tr Value} {n:Nat} {tm:BR} {D idx:AW} {x:Nat} {o:Oper} {rest:List PE} {G:List (Nat × Nat)} {Fact:Nat->Oper->Nat->Prop}
end
section
variable {X:Ctx} {N:Nat}
end
end Go.AD
namespace Go.AD
end Go.AD
namespace Go.AD
open Go.Proofs
end Go.AD
namespace Go.AD
open Go.Proofs
section
variable {ns nk:Nat} {row:List (EK.C [.tok])} {krow:Cq} {LS LK:FZ} {ls:Aw}
structure qR (ns:Nat) (row:List (EK.C [.tok])) (krow:Cq) (ls:Aw) (s:Nat):Prop where
 tC:∀v∈row,eX 27 v
 qC:∀p∈krow,eX 27 p.2
 hs:s < ns
 Pr:ns=row.length
 Jl:row.getD s (EK.BL [.tok])=Ao 26 ls.length
 SP:ls.length < 80000
 hm:ns < 80000
end
structure V4 (x:Cm) (s:Nat):Prop where
 hs:s < x.AR.length
 hm:x.AR.length < 80000
 SP:(C7 x s).length < 80000
def Ux (x:Cm) (s:Int):Aw:=(C7 x s.toNat).take 100
theorem tq {base:Env} {W0 W:World} {μ:Ae} {H:AA} (h:AJ base W0 μ H W) {b n c:Nat} {k:EK} {l:List (EK.C k)} {ro:Bool} (hb:H.get b=some (.cells (Ag k l) k.length ro)) (h1:n<=c) (h2:c<=l.length) (h3:1<=c) (h4:c<=1000) (hk:k.length≠0) {x':Value} (hx:AH μ (.slice (some ⟨b,0,none⟩) n c) x'):AH μ (.slice (some ⟨b,0,some 0⟩) n Aa) x':=by
 cases hx with
 | slice _ _ _ _ cap' o' T hm hc ho=>
  obtain⟨o2,ho2,hr⟩:=h.obj b _ hb T hm;cases hr with
  | cells _ _ _ _ _ _ _ he hcl hsz hf=>
   rename_i arr t3 lo3 hi3;have hsa:arr.toList.length=arr.size:=VR;have hlen:=hcl.length;rw[IP,MQ,BH,hsa]at hlen;have e:cap'=c:=by
    rcases hc with⟨_,e⟩ | ⟨e,_⟩
    ·exact e
    ·unfold Aa at e;omega
   subst e;have hTr:T.r≠0:=by
    intro h0;have:0 < l.length * k.length:=dO (by omega) (by omega);omega
   have hmul:cap' * T.e<=l.length * k.length:=by rw[<-he];exact Ye _ h2
   refine .Bk b 0 n Aa cap' o' T hm (.inr ⟨CC _,by omega,h1,by omega,.inr (by omega)⟩) (by rw[ki];exact ho) hTr
structure IQ where
 b:Nat
 n:Nat
 c:Nat
 g:Value->AL
structure jG (get:AL->Option IQ):Prop where
 at_:∀{args w},get args=some w->args=w.g (.slice (some ⟨w.b,0,none⟩) w.n w.c)
 rel:∀{args w},get args=some w->∀{μ:Ae} {v v2:Value} {l:AL},(∀x,AH μ v x->AH μ v2 x)->Am μ (w.g v) l->Am μ (w.g v2) l
 bN:∀{args w},get args=some w->∀{μ:Ae} {l:AL},Am μ args l->∃x,AH μ (.slice (some ⟨w.b,0,none⟩) w.n w.c) x
def fO (k:EK) (w:IQ) (cs:AL) (e:Nat):Bool:=Nat.beq e k.length&&(Nat.ble w.n w.c&&(Nat.beq cs.length (w.c * k.length)&&(Nat.ble 1 w.c&&Nat.ble w.c 1000)))
def Xu (k:EK) (get:AL->Option IQ) (F:DO):DO:=fun args H=>match get args with
 | some ⟨b,n,c,g⟩=>match H.get b with
  | some (.cells cs e ro)=>match QV k c cs with
   | some l=>bif fO k ⟨b,n,c,g⟩ cs e then F (g (.slice (some ⟨b,0,some 0⟩) n 18446744073709551616)) (H.put b (.vec k l ro))else none
   | none=>none
  | _=>none
 | none=>none
def nZ (k:EK) (get:AL->Option IQ) (q:HL):HL:=fun args H K=>match get args with
 | some ⟨b,n,c,g⟩=>match H.get b with
  | some (.cells cs e ro)=>match QV k c cs with
   | some l=>bif fO k ⟨b,n,c,g⟩ cs e then q (g (.slice (some ⟨b,0,some 0⟩) n 18446744073709551616)) (H.put b (.vec k l ro)) K else False
   | none=>False
  | _=>False
 | none=>False
theorem bB {k:EK} {get:AL->Option IQ} {F:DO} {q:HL} (h:Xf F q):Xf (Xu k get F) (nZ k get q):=by
 intro X f hX args H K hq;unfold CP;rw[hX];show ∃v H',Xu k get F args H=some (v,H')/\K v H'
 unfold nZ at hq;unfold Xu;split at hq
 ·rename_i b n c g hw;split at hq
  ·rename_i cs e ro hg;split at hq
   ·rename_i l hl;cases hc:fO k ⟨b,n,c,g⟩ cs e
    ·rw[hc,AN]at hq;exact hq.elim
    ·rw[hc,Al]at hq;rw[Al];have:=h ⟨X.P,X.laid,fun _=>some F,X.BJ⟩ f rfl _ _ _ hq;exact this
   ·exact hq.elim
  ·exact hq.elim
 ·exact hq.elim
theorem Z5 {P:Program} {laid:Co} {f:FuncId} {F:DO} {k:EK} {get:AL->Option IQ} (hk:k.length≠0) (hg:jG get) (h:CY P laid f F):CY P laid f (Xu k get F):=by
 refine⟨h.1,fun base W0 μ H W args args' v H' hL hH hLa ha hF=>?_⟩;unfold Xu at hF;split at hF
 ·rename_i b n c g hw;split at hF
  ·rename_i cs e ro hgb;split at hF
   ·rename_i l hl;cases hc:fO k ⟨b,n,c,g⟩ cs e
    ·rw[hc,AN]at hF;cases hF
    ·rw[hc,Al]at hF;unfold fO at hc;simp only[DL]at hc;obtain⟨c0,c1,c2,c3,c4⟩:=hc;have e0:=AG c0;subst e0;obtain⟨d1,d2,d3⟩:=Kk k hk _ _ _ hl;have c2:=AG c2;have e1:cs=Ag k l:=by rw[d1,Pb (by omega)]
     subst e1;have hx:∀x,AH μ (.slice (some ⟨b,0,none⟩) n c) x->AH μ (.slice (some ⟨b,0,some 0⟩) n 18446744073709551616) x:=fun x hx=>by
      have:=tq hH hgb (VC c1) (by omega) (VC c3) (VC c4) hk hx;unfold Aa at this;exact this
     obtain⟨x0,hx0⟩:=hg.bN hw ha;have hT:∃T,μ b=some T:=by
      cases hx0 with
      | slice _ _ _ _ _ _ T hm _ _=>exact⟨T,hm⟩
     rw[hg.at_ hw]at ha;have h2:=h.2 base W0 μ _ W _ args' v H' hL (hH.JF hgb) hLa (hg.rel hw hx ha) hF;refine Calls.mono h2 fun en W' ⟨v',μ',q1,q2,q3,q4⟩=>⟨v',μ',q1,q2,q3,?_⟩
     have hbl:=hH.lt hgb;refine⟨q4.le,q4.next,fun b0 hb hm=>?_⟩;obtain⟨r1,r2⟩:=q4.ghost b0 hb hm;refine⟨r1,?_⟩;rw[r2,AA.AU]
     by_cases hbw:b0=b
     ·obtain⟨T,hT⟩:=hT;rw[hbw,hT]at hm;cases hm
     ·rw[E7 hbw]
   ·cases hF
  ·cases hF
 ·cases hF
def PT.hint (w:Value):PT->PT
 | .fail=> .fail
 | .ret x=> .ask (x.v=w) (.ret ⟨w,x.nx,x.news⟩)
 | .test c a b=> .test c (a.hint w) (b.hint w)
 | .ask p a=> .ask p (a.hint w)
def Zv (w:Value) (q:Gk):Gk:=fun p rest os=>(q p rest os).hint w
theorem NS {w:Value}:∀{t:PT} {x:Vm},(t.hint w).gt.run=some x->t.gt.run=some x
 | .fail,_,h=>h
 | .ret y,x,h=>by
  simp only[PT.hint,PT.gt,GT.run]at h ⊢;split at h
  ·rename_i e;rw[e];exact h
  ·cases h
 | .test c a b,x,h=>by
  cases c
  ·exact NS (t:=b) h
  ·exact NS (t:=a) h
 | .ask p a,x,h=>by
  simp only[PT.hint,PT.gt,GT.run]at h ⊢;split at h
  ·rename_i hp;rw[HI hp];exact NS (t:=a) h
  ·cases h
theorem M0 (w:Value) (q:Gk):∀a o x,(CX 20 (Zv w q) a o).run=some x->(CX 20 q a o).run=some x:=IU fun _ _ _ _ hx=>NS hx
def ON (f:FuncId) (w:Value) (q:Gk):GA:=(f,Ai AI 20 [true] (CX 20 q),Cs AI 20 [true] (CX 20 (Zv w q)))
def TN:AL->Option IQ
 | [d,i,.slice (some ⟨b,0,none⟩) n c]=>some ⟨b,n,c,fun v=>[d,i,v]⟩
 | _=>none
def TS:AL->Option IQ
 | [d,.agg ⟨[a,e,.slice (some ⟨b,0,none⟩) n c]⟩]=>some ⟨b,n,c,fun v=>[d,.agg ⟨[a,e,v]⟩]⟩
 | _=>none
def uw:DO:=fun args H=>match args with
 | []=>some (.bool true,H)
 | _=>none
def yQ:HL:=fun args H K=>match args with
 | []=>K (.bool true) H
 | _=>False
def wO (l:List B2) (m:Nat):PF:=Eo l (Mc m) 0 Oo
def Jo (_:BT):Bool:=false
theorem gm {μ:Ae} {v v2:Value} (h:∀x,AH μ v x->AH μ v2 x) {a b:Value} {l:AL} (hl:Am μ [a,b,v] l):Am μ [a,b,v2] l:=by
 cases hl with
 | cons g1 g2=>cases g2 with
  | cons g3 g4=>cases g4 with
   | cons g5 g6=>exact .cons g1 (.cons g3 (.cons (h _ g5) g6))
theorem kq:jG TS:=by
 constructor
 ·intro args w h;unfold TS at h;split at h
  ·cases h;rfl
  ·cases h
 ·intro args w h μ v v2 l hv hl;unfold TS at h;split at h
  ·cases h
   cases hl with
   | cons g1 g2=>cases g2 with
    | cons g3 g4=>
     obtain⟨ys,rfl,q⟩:=AH.Ce.1 g3;exact .cons g1 (.cons (AH.Ce.2 ⟨ys,rfl,gm hv q⟩) g4)
  ·cases h
 ·intro args w h μ l hl;unfold TS at h;split at h
  ·cases h
   cases hl with
   | cons g1 g2=>cases g2 with
    | cons g3 g4=>
     obtain⟨ys,rfl,q⟩:=AH.Ce.1 g3;have q:Am μ [_,_,_] ys.toList:=q;generalize ys.toList=yy at q;cases q with
     | cons r1 r2=>cases r2 with
      | cons r3 r4=>cases r4 with
       | cons r5 r6=>exact⟨_,r5⟩
  ·cases h
theorem KE {G G2:AL->BN->GT} {m:List Bool} (h:∀a o x,(G2 a o).run=some x->(G a o).run=some x):Xf (Ai AI 20 m G) (Cs AI 20 m G2):=fun X g hX args H K hk=>by
 have hctx:(⟨X.P,X.laid,fun _=>some (Ai AI 20 m G2),X.BJ⟩:Ctx).IN g=some (Ai AI 20 m G2):=rfl;obtain⟨v,H',h1,h2⟩:=Gq hctx hk;refine⟨v,H',?_,h2⟩;unfold CP at h1 ⊢;simp only[hX]at h1 ⊢;exact LL h h1
theorem tL:Xf uw yQ:=fun X g hX args H K hk=>by
 unfold yQ at hk;split at hk
 ·refine⟨_,H,?_,hk⟩;unfold CP;simp only[hX];rfl
 ·exact hk.elim
variable (hW:CY Tryz.prog AI Dj uw)
include hW in
def lU (m:AS):Int:=IntKind.wrap .i64 ((m.b.length:Int) - m.Ej)
structure WZ (d:Ab):Prop where
 yF:∀i:Nat,i < 7->Lb d i lU=0/\Lp d i=0
 sy:Rj d
 e:(HU d (Bo d)).1=0
 ops:(HU d (Bo d)).2.ops=d.ops
section
variable {l:List B2} {L:Nat->Aw} {u:Nat->Int} {k:Int}
include hW in
structure ju (d:Ab) (L:Nat->Aw) (s:Int):Prop where
 sc:N9 d
 lo:0<=s
 hi:s < 7
 es:s < 5->V4 (EG d) s.toNat/\PR (Ux (EG d) s) (L s.toNat) (Ux (EG d) s).length (L s.toNat).length
include hW in
structure ij (d:Ab):Prop where
 dn:d.down=false
 bad:∀i:Nat,i < 7->Ba d.BB i=false
 sc:N9 d
 rd:kR d
end
end Go.AD
namespace Go.AD
open Go.Proofs
def AC0 (e:Int):Gk:=fun p rest os=>match p,rest,os with
 | .idx x,[.agg ⟨[.int .i64 q,.string a,.bool d,.int .i64 s,.int .i64 o,.int .i64 z]⟩],[]=> .ask ((s=(s.toNat:Int)/\Lr x q a d s.toNat o z)/\El x q a d s.toNat o z=e) (.ret ⟨int e,.idx (JO x q a d s.toNat o z),[]⟩)
 | _,_,_=> .fail
def cSe (dn:Bool) (e:Int):List GA:=[(DQ,Ai AI 20 [true] (CX 20 (HK fun m=>m.b.length)),Cs AI 20 [true] (CX 20 oa)),
 (Cb,Ai AI 20 [true] (CX 20 M4),Cs AI 20 [true] (CX 20 fR)),
 ON Di (.bool dn) (FT (fun d=> .bool d.down) id),
 (DT,Ai AI 20 [true] (CX 20 (FT (fun d=>int d.AR) id)),Cs AI 20 [true] (CX 20 Tx)),
 (AE,Ai AI 20 [true] s7,Cs AI 20 [true] (CX 20 (AC0 e))),GQ E0 [] yP,GQ Ay [] yW]
theorem ACy (d:Ab) (Q:Bm):CU Yr (Ax (cSe true 0)) [] Ac [20] 21 Q 300 (st Ac [At 20] (hp [.abs (.pack (.dev d)) false]))=(
 (0 < Ab.AR d)/\(bif Ab.AR d==0 then(Q (.tuple ⟨[(.pointer none),(int 1)]⟩) [some (.abs (Ct.pack (PL.nx { v:=int (Ab.AR d),nx:=Pk.dev d,news:=[] })) false)])else(((.bool (Ab.down d)):Value)=(.bool true))/\(Q (.tuple ⟨[(.pointer none),(int 13)]⟩) [some (.abs (Ct.pack (PL.nx { v:=Value.bool true,nx:=PL.nx { v:=Value.bool (Ab.down d),nx:=Pk.dev (id d),news:=[] },news:=PL.news { v:=Value.bool (Ab.down d),nx:=Pk.dev (id d),news:=[] } })) false)]))):=by kernel_rfl
theorem ACw (d:Ab) (x:Cm) (es:Aw) (m:Nat) (n i j e:Int) (Q:Bm) (R R2:Bz):NH Yr (Ax (cSe false e)) [] Ac [20] qZ (fun c=>qZ.here c) cP (fun c=>cP.here c) wx Q R R2 900 (uz d x es m n i j)=(
 let a:=List.getD es (0+j.toNat) (EK.BL Ah);(bif decide (j < (m:Int))then(bif decide (0<=j)&&Nat.blt j.toNat m then(bif Nat.blt (0+j.toNat) es.length then((a.2.2.2.1=(a.2.2.2.1.toNat:Int)/\Lr x a.1 a.2.1 a.2.2.1 a.2.2.2.1.toNat a.2.2.2.2.1 a.2.2.2.2.2)/\El x a.1 a.2.1 a.2.2.1 a.2.2.2.1.toNat a.2.2.2.2.1 a.2.2.2.2.2=e)/\(bif e != 0 then(Q (.tuple ⟨[(.pointer none),(int e)]⟩) [some (.abs (Ct.pack (Pk.dev d)) false)])else(R2 (uz d (yf x es j) es m n i (IntKind.wrap .i64 (j+1)))))else False)else False)else(R (pI d x n (IntKind.wrap .i64 (i+1)))))):=by kernel_rfl
theorem ACU (e:Int):∀a o x,(CX 20 (AC0 e) a o).run=some x->(s7 a o).run=some x:=IU fun s rest os x hx=>by
 unfold AC0 at hx;unfold Yl;split at hx
 ·rename_i y q a d s o z;simp only[PT.gt,GT.run]at hx ⊢;split at hx
  ·rename_i h;rw[HI ⟨h.1,trivial⟩,h.2];exact hx
  ·cases hx
 ·simp only[PT.gt,GT.run]at hx;cases hx
theorem ADL (dn:Bool) (e:Int):Ci (cSe dn e):= .OG Sz Ws <| .OG YH bU <| .other QK (KE (M0 _ _)) <| .OG Ox Q6 <| .OG og (ACU e) <| .cons gu <| .cons rB .nil
theorem ADB (dn:Bool) (e:Int):HO Yr (Ax (cSe dn e)):=(ADL dn e).pf
def zx (x:Cm) (y:NQ):Int:=El x y.1 y.2.1 y.2.2.1 y.2.2.2.1.toNat y.2.2.2.2.1 y.2.2.2.2.2
def zG:Cm->Aw->Int
 | _,[]=>0
 | x,y::r=>bif zx x y==0 then zG (fC x y) r else zx x y
def ABW:Cm->Aw->Prop
 | _,[]=>True
 | x,y::r=>(y.2.2.2.1=(y.2.2.2.1.toNat:Int)/\Lr x y.1 y.2.1 y.2.2.1 y.2.2.2.1.toNat y.2.2.2.2.1 y.2.2.2.2.2)/\(zx x y=0->ABW (fC x y) r)
def zn (d:Ab):Nat->Nat->Cm->Int
 | 0,_,_=>0
 | k+1,i,x=>bif zG x (Gp d (i:Nat))==0 then zn d k (i+1) (Nh x (Gp d (i:Nat)))else zG x (Gp d (i:Nat))
def AAD (d:Ab):Nat->Nat->Cm->Prop
 | 0,_,_=>True
 | k+1,i,x=>uC d (i:Nat)/\ABW x (Gp d (i:Nat))/\(zG x (Gp d (i:Nat))=0->AAD d k (i+1) (Nh x (Gp d (i:Nat))))
theorem ADA {dn:Bool} {e:Int} {Q:Bm} {R R2:Bz} {Q':Ih} {c:BT} (hQ:∀v H,Q v (([20]++Au 4 v).map H.get)->Q' v H) (hR:∀c,R c->AX Yr 21 Ac Q' c) (hR2:∀c,R2 c->AX Yr 21 Ac Q' c)
 (h:NH Yr (Ax (cSe dn e)) [] Ac [20] qZ (fun c=>qZ.here c) cP (fun c=>cP.here c) wx Q R R2 900 c):AX Yr 21 Ac Q' c:=
 IH (ADB dn e) (M:=21) (by kernel_rfl) (by decide) (by decide) hQ hR hR2 900 _ h
section
variable {d:Ab} {Q':Ih}
theorem seB {n:Int} {i:Nat} {x0:Cm} {es:Aw} (hl:es.length < 100000) (hi:i < 100) (hA:zG x0 es=0->AX Yr 21 Ac Q' (pI d (Nh x0 es) n ((i+1:Nat):Int)))
 (hE:zG x0 es≠0->∀H:AA,H.get 20=some (.abs (.pack (.dev d)) false)->Q' (.tuple ⟨[.pointer none,int (zG x0 es)]⟩) H):∀(k j:Nat) (x:Cm),es.length - j=k->j<=es.length->Nh x (es.drop j)=Nh x0 es->zG x (es.drop j)=zG x0 es->ABW x (es.drop j)->
 AX Yr 21 Ac Q' (uz d x es es.length n (i:Nat) (j:Nat)):=by
 intro k;induction k with
 | zero=>
  intro j x hk hj hx he ha;have hd:es.drop j=[]:=di (by omega);rw[hd]at hx he;have hx:x=Nh x0 es:=hx;have he:(0:Int)=zG x0 es:=he;refine Vj (Q:=fun _ _=>False) (R:=fun c=>c=pI d x n ((i+1:Nat):Int)) (R2:=fun _=>False) (fun v H hq=>hq.elim) (fun c hc=>?_) (fun c h=>h.elim) ?_
  ·rw[hc,hx];exact hA he.symm
  ·rw[jM];refine AZ (GP (by omega)) ?_;rw[wrap64 (by omega) (by omega)];rfl
 | succ k ih=>
  intro j x hk hj hx he ha;have hlt:j < es.length:=by omega
  rw[dG hlt]at hx he ha;obtain⟨h1,h2⟩:=ha;have hw:IntKind.wrap .i64 ((j:Int)+1)=((j+1:Nat):Int):=by rw[wrap64 (by omega) (by omega)];rfl
  by_cases h0:zx x (DI es j)=0
  ·have he:(bif zx x (DI es j)==0 then zG (fC x (DI es j)) (es.drop (j+1))else zx x (DI es j))=zG x0 es:=he;rw[Vv.2 h0,Al]at he;refine Vj (Q:=fun _ _=>False) (R:=fun _=>False) (R2:=fun c=>c=uz d (fC x (DI es j)) es es.length n (i:Nat) ((j+1:Nat):Int)) (fun v H hq=>hq.elim) (fun c h=>h.elim) (fun c hc=>?_) ?_
   ·rw[hc];exact ih (j+1) _ (by omega) (by omega) hx he (h2 h0)
   ·rw[jM];(conv=>zeta);rw[hw]
    unfold yf;simp only[HR,Hq];exact AB (Fp (by omega)) (AB (EI hlt) (AB (Gc hlt) ⟨⟨h1,h0⟩,rfl⟩))
  ·have he:(bif zx x (DI es j)==0 then zG (fC x (DI es j)) (es.drop (j+1))else zx x (DI es j))=zG x0 es:=he;rw[fH.2 h0,AN]at he;refine ADA (dn:=false) (e:=zx x (DI es j)) (Q:=fun v os=>v= .tuple ⟨[.pointer none,int (zx x (DI es j))]⟩/\os=[some (.abs (.pack (.dev d)) false)]) (R:=fun _=>False) (R2:=fun _=>False) (fun v H hq=>?_) (fun c h=>h.elim) (fun c h=>h.elim) ?_
   ·obtain⟨rfl,hos⟩:=hq;have hos:[H.get 20]=_:=hos;simp only[JB,dM]at hos;rw[he];exact hE (by rw[<-he];exact h0) H hos
   ·rw[ACw];(conv=>zeta);rw[HR,Hq]
    exact AB (Fp (by omega)) (AB (EI hlt) (AB (Gc hlt) ⟨⟨h1,rfl⟩,AB (bne_iff_ne.2 h0) ⟨rfl,rfl⟩⟩))
theorem seA {n:Nat} (hn:n<=32):∀(k i:Nat) (x:Cm),n - i=k->i<=n->AAD d k i x->zn d k i x≠0->(∀H:AA,H.get 20=some (.abs (.pack (.dev d)) false)->Q' (.tuple ⟨[.pointer none,int (zn d k i x)]⟩) H)->
 AX Yr 21 Ac Q' (pI d x (n:Nat) (i:Nat)):=by
 intro k;induction k with
 | zero=>intro i x _ _ _ hne;exact absurd rfl hne
 | succ k ih=>
  intro i x hk hi ha hne hQ;obtain⟨h1,h2,h3⟩:=ha;have hw:IntKind.wrap .i64 ((i:Int)+1)=((i+1:Nat):Int):=by rw[wrap64 (by omega) (by omega)];rfl
  cases h0:(A8 d (i:Nat)==0)
  ·have he:Gp d (i:Nat)=T8 d (i:Nat):=by unfold Gp;rw[h0];rfl
   obtain⟨r1,r2⟩:=h1.rd h0;refine Vj (Q:=fun _ _=>False) (R:=fun _=>False) (R2:=fun c=>c=uz d x (T8 d (i:Nat)) (T8 d (i:Nat)).length (n:Nat) (i:Nat) ((0:Nat):Int)) (fun v H hq=>hq.elim) (fun c h=>h.elim) (fun c hc=>?_) ?_
   ·rw[hc];have hes:(T8 d (i:Nat)).length < 100000:=by
     have:=Sm (Ed d (i:Nat) 0 (A8 d (i:Nat))) 0 (Ed d (i:Nat) 0 (A8 d (i:Nat))).length (i:Nat) (Ed d (i:Nat) 0 (A8 d (i:Nat))).length 0;have hb:=r2.hb;unfold T8;omega
    rw[he]at h2 h3;refine seB (x0:=x) hes (by omega) (fun e0=>?_) (fun e0 H hH=>?_) _ 0 x rfl (PM _) rfl rfl h2
    ·have hs:zn d (k+1) i x=zn d k (i+1) (Nh x (T8 d (i:Nat))):=by
      show(bif zG x (Gp d (i:Nat))==0 then _ else _)=_;rw[he,Vv.2 e0];rfl
     rw[hs]at hne hQ;exact ih (i+1) _ (by omega) (by omega) (h3 e0) hne hQ
    ·have hs:zn d (k+1) i x=zG x (T8 d (i:Nat)):=by
      show(bif zG x (Gp d (i:Nat))==0 then _ else _)=_;rw[he,fH.2 e0];rfl
     rw[hs]at hQ;exact hQ H hH
   ·rw[Y9];exact AB (Fp (by omega)) ⟨⟨h1.dn,h1.bad⟩,AZ h0 ⟨ad _ _ r1,r2,rfl⟩⟩
  ·have he:Gp d (i:Nat)=[]:=by unfold Gp;rw[h0];rfl
   have hs:zn d (k+1) i x=zn d k (i+1) x:=by
    show(bif zG x (Gp d (i:Nat))==0 then zn d k (i+1) (Nh x (Gp d (i:Nat)))else _)=_;rw[he];rfl
   rw[hs]at hne hQ;rw[he]at h3;refine Vj (Q:=fun _ _=>False) (R:=fun c=>c=pI d x (n:Nat) ((i+1:Nat):Int)) (R2:=fun _=>False) (fun v H hq=>hq.elim) (fun c hc=>?_) (fun c h=>h.elim) ?_
   ·rw[hc];exact ih (i+1) x (by omega) (by omega) (h3 rfl) hne hQ
   ·rw[Y9];exact AB (Fp (by omega)) ⟨⟨h1.dn,h1.bad⟩,AB h0 (by rw[hw])⟩
end
def ze (d:Ab):Int:=zn d d.AR.toNat 0 (aN d.AR.toNat)
structure ABS (d:Ab):Prop where
 dn:d.down=false
 s1:2<=d.AR
 s2:d.AR<=32
 all:AAD d d.AR.toNat 0 (aN d.AR.toNat)
 ne:ze d≠0
def ACI (d:Ab) (e:Int) (v:Value) (H:AA):Prop:=v= .tuple ⟨[.pointer none,int e]⟩/\H.get 20=some (.abs (.pack (.dev d)) false)
theorem AB9 {d:Ab} (h:ABS d):AX Yr 21 Ac (ACI d (ze d)) (st Ac [At 20] (hp [.abs (.pack (.dev d)) false])):=by
 obtain⟨n,hn⟩:∃n:Nat,d.AR=(n:Int):=⟨d.AR.toNat,by have:=h.s1;omega⟩
 have h1:=h.s1;have h2:=h.s2;have hall:=h.all;have hne:=h.ne;rw[hn]at h1 h2;refine Bq YF.pf [] [20] qZ wx (by kernel_rfl) (show 21<=21 from CC _) (fun _ _=>False) (fun c=>c=pI d (aN n) (n:Nat) ((0:Nat):Int)) (fun v H h=>h.elim) (fun c hc=>?_) (n:=900) ?_
 ·rw[hc];unfold ze at hne ⊢;rw[hn,HR]at hall hne;rw[hn,HR];exact seA (by omega) n 0 (aN n) rfl (PM _) hall hne fun H hH=>⟨rfl,hH⟩
 ·rw[sN];(conv=>zeta)
  rw[hn,HR];have hp:0 < (n:Int):=by omega
  have hne:((n:Int)==0)=false:=fH.2 (by omega);exact⟨hp,AZ hne ⟨h.dn,hp,⟨by omega,h2⟩,hp,rfl⟩⟩
theorem ACC {d:Ab} (hs:0 < d.AR) (h:d.down=true):AX Yr 21 Ac (ACI d 13) (st Ac [At 20] (hp [.abs (.pack (.dev d)) false])):=by
 have hv:CU Yr (Ax (cSe true 0)) [] Ac [20] 21 (fun v os=>v= .tuple ⟨[.pointer none,int 13]⟩/\os=[some (.abs (.pack (.dev d)) false)]) 300 (st Ac [At 20] (hp [.abs (.pack (.dev d)) false])):=by
  rw[ACy];exact⟨hs,AZ (fH.2 (by omega)) ⟨congrArg Value.bool h,rfl,rfl⟩⟩
 refine AX.mono (BK (ADB true 0) (by kernel_rfl) hv) fun v H hQ=>?_
 obtain⟨rfl,hos⟩:=hQ;have hos:[H.get 20]=_:=hos;simp only[JB,dM]at hos;exact⟨rfl,hos⟩
def AAZ:Gk:=fun p rest os=>match p,rest,os with
 | .dev d,[],[]=> .test d.down (.ask (0 < d.AR) (.ret ⟨.tuple ⟨[.pointer none,int 13]⟩,.dev d,[]⟩)) (.ask (ABS d) (.ret ⟨.tuple ⟨[.pointer none,int (ze d)]⟩,.dev d,[]⟩))
 | _,_,_=> .fail
theorem AAv {d:Ab} {v:Value} (hv:Dr (Db.J1 AI 20 1 []) v=some v) {H:AA} (h:H.get 20=some (.abs (.pack (.dev d)) false)):Db AI 20 1 [true] ⟨v,[some (.abs (.pack (.dev d)) false)],[]⟩ v H:=by
 refine⟨[],HM,fun b hb=>(by cases hb),rfl,hv,fun j b o hj=>(by cases hj),fun j o hj hm ho=>?_⟩;have hj:j=0:=by omega
 subst hj;cases ho
 exact⟨_,rfl,h⟩
theorem ABV:CY Tryz.prog AI Ac (Ai AI 20 [true] (CX 20 AAZ)):=by
 refine UP YF.all (n:=BD Ac) (by kernel_rfl) fun s rest os=>?_
 unfold AAZ;split
 ·rename_i d;refine⟨fun hd hs=>?_,fun hd h=>?_⟩
  ·refine⟨VC (by kernel_rfl),Ak.mono (AX.Fh (ACC hs hd)) ?_⟩;rintro v H ⟨rfl,g⟩;exact AAv rfl g
  ·refine⟨VC (by kernel_rfl),Ak.mono (AX.Fh (AB9 h)) ?_⟩;rintro v H ⟨rfl,g⟩;exact AAv rfl g
 ·trivial
def cBe (dn:Bool):List GA:=[(DT,Ai AI 20 [true] (CX 20 (FT (fun d=>int d.AR) id)),Cs AI 20 [true] (CX 20 Tx)),
 ON Di (.bool dn) (FT (fun d=> .bool d.down) id),ON Ac (.tuple ⟨[.pointer none,int 6]⟩) AAZ,GQ Y4 [] ACu]
abbrev XBe:Ctx:=Bp Tryz.prog AI (Cv (cBe false))
theorem ABv (d:Ab) (s z r w k v p:Int) (Q:Bm):CU XBe (Ax (cBe false)) [] Xk [20] 21 Q 1000 (st Xk [At 20,ABb s z r w k v p] (hp [.abs (.pack (.dev d)) false]))=(
 let g:=ze (id d);let e:=((At 20):Value)=(At 20);let b:Value:= .pointer none;let i:Value:= .tuple ⟨[b,(int 6)]⟩;let h:Value:= .tuple ⟨[b,b,(int 6)]⟩;let a:AP:= .abs (Ct.pack (PL.nx { v:=int (Ab.AR d),nx:=Pk.dev d,news:=[] })) false;let f:Prop:=Q (.tuple ⟨[b,b,(int 2)]⟩) [some a];let c:Prop:=Q (.tuple ⟨[b,b,(int 1)]⟩) [some a];e/\(bif zU s z r w k v p==0 then(0 < Ab.AR d)/\(((int s):Value)=(int s))/\(((At 21):Value)=(At 21))/\e/\(bif s==Ab.AR d then(0 < Ab.AR d)/\(bif Ab.AR d==0 then c else(((.bool (Ab.down d)):Value)=(.bool false))/\(bif Ab.down (id d)then(0 < Ab.AR (id d))/\(((.tuple ⟨[b,(int 13)]⟩):Value)=i)/\(Q h [some (.abs (Ct.pack (PL.nx { v:=Value.tuple { toList:=[Value.pointer none,int 6] },nx:=PL.nx { v:=Value.tuple { toList:=[Value.pointer none,int 13] },nx:=Pk.dev (id d),news:=[] },news:=PL.news { v:=Value.tuple { toList:=[Value.pointer none,int 13] },nx:=Pk.dev (id d),news:=[] } })) false)])else(ABS (id d))/\(((.tuple ⟨[b,(int g)]⟩):Value)=i)/\(Q h [some (.abs (Ct.pack (PL.nx { v:=Value.tuple { toList:=[Value.pointer none,int 6] },nx:=PL.nx { v:=Value.tuple { toList:=[Value.pointer none,int g] },nx:=Pk.dev (id d),news:=[] },news:=PL.news { v:=Value.tuple { toList:=[Value.pointer none,int g] },nx:=Pk.dev (id d),news:=[] } })) false)])))else(0 < Ab.AR d)/\(bif Ab.AR d==0 then c else f))else e/\(0 < Ab.AR d)/\(bif Ab.AR d==0 then c else f))):=by kernel_rfl
theorem ACi (d:Ab) (s z r w k v p:Int) (Q:Bm):CU XBe (Ax (cBe true)) [] Xk [20] 21 Q 1000 (st Xk [At 20,ABb s z r w k v p] (hp [.abs (.pack (.dev d)) false]))=(
 let e:=((At 20):Value)=(At 20);let b:Value:= .pointer none;let a:AP:= .abs (Ct.pack (PL.nx { v:=int (Ab.AR d),nx:=Pk.dev d,news:=[] })) false;let f:Prop:=Q (.tuple ⟨[b,b,(int 2)]⟩) [some a];let c:Prop:=Q (.tuple ⟨[b,b,(int 1)]⟩) [some a];e/\(bif zU s z r w k v p==0 then(0 < Ab.AR d)/\(((int s):Value)=(int s))/\(((At 21):Value)=(At 21))/\e/\(bif s==Ab.AR d then(0 < Ab.AR d)/\(bif Ab.AR d==0 then c else(((.bool (Ab.down d)):Value)=(.bool true))/\(Q (.tuple ⟨[b,b,(int 13)]⟩) [some (.abs (Ct.pack (PL.nx { v:=Value.bool true,nx:=PL.nx { v:=Value.bool (Ab.down d),nx:=Pk.dev (id d),news:=[] },news:=PL.news { v:=Value.bool (Ab.down d),nx:=Pk.dev (id d),news:=[] } })) false)]))else(0 < Ab.AR d)/\(bif Ab.AR d==0 then c else f))else e/\(0 < Ab.AR d)/\(bif Ab.AR d==0 then c else f))):=by kernel_rfl
theorem AC8 (dn:Bool):Ci (cBe dn):= .OG Ox Q6 <| .other QK (KE (M0 _ _)) <| .other ABV (KE (M0 _ _)) <| .cons ACg .nil
theorem ADN (dn:Bool):HO XBe (Ax (cBe dn)):=(AC8 dn).pf
def ABi (e:Int):Value:= .tuple ⟨[.pointer none,.pointer none,int e]⟩
def ABa (d:Ab) (e:Int) (v:Value) (H:AA):Prop:=v=ABi e/\H.get 20=some (.abs (.pack (.dev d)) false)
theorem ACH {dn:Bool} {d:Ab} {e s z r w k v p:Int} (h:CU XBe (Ax (cBe dn)) [] Xk [20] 21 (fun v os=>v=ABi e/\os=[some (.abs (.pack (.dev d)) false)]) 1000 (st Xk [At 20,ABb s z r w k v p] (hp [.abs (.pack (.dev d)) false]))):AX XBe 21 Xk (ABa d e) (st Xk [At 20,ABb s z r w k v p] (hp [.abs (.pack (.dev d)) false])):=by
 refine AX.mono (BK (ADN dn) (by kernel_rfl) h) fun v H hQ=>?_
 obtain⟨rfl,hos⟩:=hQ;have hos:[H.get 20]=_:=hos;simp only[JB,dM]at hos;exact⟨rfl,hos⟩
section
variable {d:Ab} {s z r w k v p:Int}
theorem ACs (hs:0 < d.AR) (h:(zU s z r w k v p==0&&s==d.AR)=false):AX XBe 21 Xk (ABa d 2) (st Xk [At 20,ABb s z r w k v p] (hp [.abs (.pack (.dev d)) false])):=by
 have hne:(d.AR==0)=false:=fH.2 (by omega);refine ACH (dn:=false) ?_;rw[ABv];refine⟨rfl,?_⟩;cases hc:zU s z r w k v p==0
 ·exact⟨rfl,hs,AZ hne ⟨rfl,rfl⟩⟩
 ·rw[hc,mb]at h;exact⟨hs,rfl,rfl,rfl,AZ h ⟨hs,AZ hne ⟨rfl,rfl⟩⟩⟩
theorem ACf (hs:0 < d.AR) (h:(zU s z r w k v p==0&&s==d.AR)=true) (hd:d.down=true):AX XBe 21 Xk (ABa d 13) (st Xk [At 20,ABb s z r w k v p] (hp [.abs (.pack (.dev d)) false])):=by
 have hne:(d.AR==0)=false:=fH.2 (by omega);simp only[DL]at h;refine ACH (dn:=true) ?_;rw[ACi];exact⟨rfl,AB h.1 ⟨hs,rfl,rfl,rfl,AB h.2 ⟨hs,AZ hne ⟨congrArg Value.bool hd,rfl,rfl⟩⟩⟩⟩
theorem ACn (h:(zU s z r w k v p==0&&s==d.AR)=true) (hd:ABS d) (h6:ze d=6):AX XBe 21 Xk (ABa d 6) (st Xk [At 20,ABb s z r w k v p] (hp [.abs (.pack (.dev d)) false])):=by
 have hs:0 < d.AR:=by have:=hd.s1;omega
 have hne:(d.AR==0)=false:=fH.2 (by omega);simp only[DL]at h;refine ACH (dn:=false) ?_;rw[ABv];exact⟨rfl,AB h.1 ⟨hs,rfl,rfl,rfl,AB h.2 ⟨hs,AZ hne ⟨congrArg Value.bool hd.dn,AZ hd.dn ⟨hd,by show Value.tuple ⟨[.pointer none,int (ze d)]⟩=_;rw[h6],rfl,rfl⟩⟩⟩⟩⟩
end
def ACL:Gk:=fun p rest os=>match p,rest,os with
 | .dev d,[.agg ⟨[.int .i64 s,.int .i64 z,.int .i64 r,.int .i64 w,.int .i64 k,.int .i64 v,.int .i64 p]⟩],[]=>
  .ask (0 < d.AR) (.test (zU s z r w k v p==0&&s==d.AR) (.test d.down (.ret ⟨ABi 13,.dev d,[]⟩) (.ask (ABS d/\ze d=6) (.ret ⟨ABi 6,.dev d,[]⟩))) (.ret ⟨ABi 2,.dev d,[]⟩))
 | _,_,_=> .fail
theorem ACk:CY Tryz.prog AI Xk (Ai AI 20 [true] (CX 20 ACL)):=by
 refine UP (AC8 false).all (n:=BD Xk) (by kernel_rfl) fun s rest os=>?_
 unfold ACL;split
 ·rename_i d s z r w k v p;refine fun hs=>⟨fun hc=>⟨fun hd=>?_,fun hd h=>?_⟩,fun hc=>?_⟩
  ·refine⟨VC (by kernel_rfl),Ak.mono (AX.Fh (ACf hs hc hd)) ?_⟩;rintro v H ⟨rfl,g⟩;exact AAv rfl g
  ·refine⟨VC (by kernel_rfl),Ak.mono (AX.Fh (ACn hc h.1 h.2)) ?_⟩;rintro v H ⟨rfl,g⟩;exact AAv rfl g
  ·refine⟨VC (by kernel_rfl),Ak.mono (AX.Fh (ACs hs hc)) ?_⟩;rintro v H ⟨rfl,g⟩;exact AAv rfl g
 ·trivial
def sc2 (e:Int):Value:= .tuple ⟨[.pointer none,int e]⟩
def BdC (d:Ab) (s z r w k v p:Int) (b:Bool):Prop:=0 < d.AR/\(zU s z r w k v p==0&&s==d.AR)=b
structure ScC (d:Ab) (e:Int):Prop where
 dn:d.down=false
 ok:ABS d
 e:ze d=e
def bdN (n:Nat):Gk:=fun p rest os=>match p,rest,os with
 | .dev d,[.agg ⟨[.int .i64 s,.int .i64 z,.int .i64 r,.int .i64 w,.int .i64 k,.int .i64 v,.int .i64 p]⟩],[]=>(match n with
  | 0=> .ask (BdC d s z r w k v p false) (.ret ⟨ABi 2,.dev d,[]⟩)
  | 1=> .ask (BdC d s z r w k v p true/\d.down=true) (.ret ⟨ABi 13,.dev d,[]⟩)
  | _=> .ask (BdC d s z r w k v p true/\ScC d 6) (.ret ⟨ABi 6,.dev d,[]⟩))
 | _,_,_=> .fail
def scN (n:Nat):Gk:=fun p rest os=>match p,rest,os with
 | .dev d,[],[]=>(match n with
  | 0=> .ask (0 < d.AR/\d.down=true) (.ret ⟨sc2 13,.dev d,[]⟩)
  | n+1=> .ask (ScC d ((n+1:Nat):Int)) (.ret ⟨sc2 ((n+1:Nat):Int),.dev d,[]⟩))
 | _,_,_=> .fail
theorem ACb (n:Nat):∀a o x,(CX 20 (bdN n) a o).run=some x->(CX 20 ACL a o).run=some x:=IU fun s rest os x hx=>by
 unfold bdN at hx;unfold ACL;split at hx
 ·split at hx
  ·simp only[PT.gt,GT.run]at hx ⊢;split at hx
   ·rename_i h;rw[HI h.1,h.2,AN];exact hx
   ·cases hx
  ·simp only[PT.gt,GT.run]at hx ⊢;split at hx
   ·rename_i h;rw[HI h.1.1,h.1.2,Al,h.2,Al];exact hx
   ·cases hx
  ·simp only[PT.gt,GT.run]at hx ⊢;split at hx
   ·rename_i h;rw[HI h.1.1,h.1.2,Al,h.2.dn,AN,HI ⟨h.2.ok,h.2.e⟩];exact hx
   ·cases hx
 ·simp only[PT.gt,GT.run]at hx;cases hx
theorem ACc (n:Nat):∀a o x,(CX 20 (scN n) a o).run=some x->(CX 20 AAZ a o).run=some x:=IU fun s rest os x hx=>by
 unfold scN at hx;unfold AAZ;split at hx
 ·split at hx
  ·simp only[PT.gt,GT.run]at hx ⊢;split at hx
   ·rename_i h;rw[h.2,Al,HI h.1];exact hx
   ·cases hx
  ·simp only[PT.gt,GT.run]at hx ⊢;split at hx
   ·rename_i h;rw[h.dn,AN,HI h.ok,h.e];exact hx
   ·cases hx
 ·simp only[PT.gt,GT.run]at hx;cases hx
end Go.AD
namespace Go.AD
section
variable {X:Ctx} {base:Env} {W0:World} {μ:Ae} {H:AA} {W:World}
theorem AJ.AAj (hW:Eb X base W0) (hl:Bj X μ) (h:AJ base W0 μ H W) {g:Nat} {cs:AL} (hg:(g,cs)∈X.laid) (hro:∀b a ro,H.get b=some (.abs a ro)->ro=false):AJ base W0 μ (H.put g (.cells cs 0 true)) W:=by
 obtain⟨T,h1,h2,h3,h4,h5⟩:=hl g (List.any_eq_true.2 ⟨_,hg,by simp⟩);have h5:=h5 cs hg;obtain⟨hK,a,t,fz,ha,hc⟩:=hW.2 _ hg;have hKT:base.K T.c:=by rw[h2];exact hK
 have haW:W.heap[T.c]? = some (.cells a t fz):=by rw[h.below _ hKT,h2];exact ha
 have hrel:=hc.rel μ;have hlen:cs.length=a.toList.length:=hrel.length;have hor:CZ μ T (.cells cs 0 true) (.cells a t fz):=by
  refine .cells _ _ _ true a t fz.1 fz.2 h4.symm ?_ ?_ (fun e=>by cases e)
  ·rw[h3,O9,hlen,cl];exact hrel
  ·have e:a.toList.length=a.size:=rfl;rw[h3,h5];omega
 have hgt:∀b o,(H.put g (.cells cs 0 true)).get b=some o->(b=g/\o= .cells cs 0 true)∨(b≠g/\H.get b=some o):=fun b o hb=>by
  rw[AA.AU]at hb
  by_cases e:b=g
  ·rw[HI e]at hb;cases hb;exact .inl ⟨e,rfl⟩
  ·rw[E7 e]at hb;exact .inr ⟨e,hb⟩
 obtain⟨φ,q⟩:=h.abs;have hne:∀b o T2,H.get b=some o->μ b=some T2->o.ro=false->¬o.void T2->T2.c≠T.c:=fun b o T2 hb hT hr hv e=>h.own b o hb hr T2 hT hv (by rw[e];exact hKT)
 refine⟨?_,?_,?_,?_,h.bound,h.size,h.below,h.out,h.os,⟨φ,?_,?_⟩,h.le,h.grow⟩
 ·intro b o hb T2 hT;rcases hgt b o hb with⟨rfl,rfl⟩ | ⟨_,hb⟩
  ·rw[h1]at hT;cases hT
   exact⟨_,haW,hor⟩
  ·exact h.obj b o hb T2 hT
 ·intro b o hb hr T2 hT hv;rcases hgt b o hb with⟨rfl,rfl⟩ | ⟨_,hb⟩
  ·cases hr
  ·exact h.own b o hb hr T2 hT hv
 ·intro b1 b2 o1 o2 hb1 hb2 T1 T2 m1 m2 v1 v2 hcc hr;rcases hgt b1 o1 hb1 with⟨rfl,rfl⟩ | ⟨n1,hq1⟩<;>rcases hgt b2 o2 hb2 with⟨rfl,rfl⟩ | ⟨n2,hq2⟩
  ·rfl
  ·rw[h1]at m1;cases m1
   rcases hr with hr | hr
   ·cases hr
   ·exact absurd hcc.symm (hne b2 o2 T2 hq2 m2 hr v2)
  ·rw[h1]at m2;cases m2
   rcases hr with hr | hr
   ·exact absurd hcc (hne b1 o1 T1 hq1 m1 hr v1)
   ·cases hr
  ·exact h.inj b1 b2 o1 o2 hq1 hq2 T1 T2 m1 m2 v1 v2 hcc hr
 ·intro b hb;obtain⟨f1,f2⟩:=h.fresh b hb;refine⟨?_,f2⟩;rw[AA.AU]
  by_cases e:b=g
  ·subst e;rw[h1]at f2;cases f2
  ·rw[E7 e];exact f1
 ·intro b x ro T2 hb hT;rcases hgt b _ hb with⟨_,e⟩ | ⟨_,hb⟩
  ·cases e
  ·exact q.rep b x ro T2 hb hT
 ·intro b x ro T2 hb hT b2 o2 T3 hb2 hT3 hne2;rcases hgt b _ hb with⟨_,e⟩ | ⟨_,hq⟩
  ·cases e
  rcases hgt b2 o2 hb2 with⟨rfl,rfl⟩ | ⟨_,hb2⟩
  ·rw[h1]at hT3;cases hT3
   exact⟨fun _ hφ=>(q.rep b x ro T2 hq hT).2 (hro b x ro hq) _ hφ hKT,fun e=>(by cases e)⟩
  ·exact q.DG b x ro T2 hq hT b2 o2 T3 hb2 hT3 hne2
end
section
variable {X:Ctx} {N:Nat} {D:Nat->Prop} {f:FuncId} {Q:Ih}
theorem Ak.laid {t:Tr Value} {n:Nat} {code:Code} {H:AA} {g:Nat} {cs:AL} (hg:(g,cs)∈X.laid) (hro:∀b a ro,H.get b=some (.abs a ro)->ro=false)
 (h:Ak X N D f Q (Em f t n code (H.put g (.cells cs 0 true)))):Ak X N D f Q (Em f t n code H):=by
 intro base W0 hb0 hDm hok hplan cs0 μ fr cs1 W hm;obtain⟨hH,hlaid,g0,gs,hfr,hcs,hnd⟩:=hm;refine h base W0 hb0 hDm hok hplan cs0 μ fr cs1 W ⟨AJ.AAj hok.1 hlaid hH hg hro,hlaid,?_⟩;cases hcs
 cases hfr with
 | plain fn t n tm todo todo' ds ds' r kd rd rd' ht hi hd hr=>exact⟨[],[],.plain _ _ _ _ _ _ _ _ _ _ _ _ ht hi hd hr,.nil,by simp⟩
end
open Go.Proofs
end Go.AD
namespace Go.AD
open Go.Proofs
end Go.AD
namespace Go.AD
open Go.Proofs
end Go.AD
namespace Go.AD
open Go.Proofs
def bdB (d:Ab) (i:Nat):Bool:=A8 d (i:Nat)==0
structure AAF (d:Ab):Prop where
 sl:d.AR=5
 dn:d.down=false
 sc:N9 d
 bad:∀i:Nat,i < 5->Ba d.BB (i:Nat)=false
 rd:∀i:Nat,i < 5->bdB d i=false->Kj d (i:Nat) 0 (A8 d (i:Nat))=true
end Go.AD
namespace Go.AD
open Go.Proofs
end Go.AD
namespace Go.AD
open Go.Proofs
def rfC (b:Nat) (L:Nat->Aw) (u:Nat->Int):AP:= .cells [At b,Ao (b+1) (L 0).length,Ao (b+2) (L 1).length,Ao (b+3) (L 2).length,Ao (b+4) (L 3).length,Ao (b+5) (L 4).length,int (u 0),int (u 1),int (u 2),int (u 3),int (u 4)] 0 false
def rfR (d:Ab) (L:Nat->Aw):BN:=[.abs (.pack (.dev d)) false,.vec Ah (L 0) false,.vec Ah (L 1) false,.vec Ah (L 2) false,.vec Ah (L 3) false,.vec Ah (L 4) false]
def cRf (b s:Nat):List GA:=[GQ AF [] xy,(Xk,Ai AI 20 [true] (CX 20 ACL),Cs AI 20 [true] (CX 20 (bdN b))),(Ac,Ai AI 20 [true] (CX 20 AAZ),Cs AI 20 [true] (CX 20 (scN s))),GQ zF [true] (CX 20 ABd),
 (EB,Xu kI TS (Ai AI 20 [true] (CX 20 T6)),nZ kI TS (Cs AI 20 [true] (CX 20 (Zv (int 0) T6)))),
 (DT,Ai AI 20 [true] (CX 20 (FT (fun d=>int d.AR) id)),Cs AI 20 [true] (CX 20 Tx)),
 ON Di (.bool true) (FT (fun d=> .bool d.down) id),ON NJ (int 0) (TB Jj BP.done),ON By (int 0) Pv,
 w7 CS [] VV jo,(Dj,uw,yQ)]
abbrev XRf:Ctx:=Bp Tryz.prog AI (Cv (cRf 0 0))
def ABc (b s:Nat) (S:Stop) (h1:BT->Bool) (Q:Bm) (R:Bz) (x:BT):Prop:=NH XRf (Ax (cRf b s)) [] vq [] S h1 S Jo [] Q R (fun _=>False) 3000 x
abbrev AAp (n:Nat) (c:BT):Bool:=Il vq n c
def rrS (live:AW):Stop:=⟨vq,0,3,21,[20],live⟩
def AB4 (t:Tr Value) (todo:List B9):Aj:=⟨vq,t,BD vq,todo,[],false,.normal,none⟩
abbrev rrP (p:AW):Code:=A9 Tryz.prog vq p
def ACT (n:Nat):List B9:=[.code (rrP (List.replicate n 1++[0])),.code (rrP (List.replicate n 1++[1]))]
def ADO (n:Nat):List B9:=[.code (rrP (List.replicate n 1++[0,0])),.code (rrP (List.replicate n 1++[0,1])),.code (rrP (List.replicate n 1++[1]))]
def cfC (s z r w k v p:Int):AP:= .cells [int s,int z,int r,int w,int k,int v,int p] 0 false
def AAz (l:List B2) (d:Ab) (L:Nat->Aw) (u:Nat->Int) (s z r w k v p:Int):BT:=⟨AB4 (EZ [(7,At 21),(8,At 22)]) (ACT 7),[],hp ([.vec JQ l true,rfC 23 L u,cfC s z r w k v p]++rfR d L)⟩
theorem AC1 (l:List B2) (m:Nat) (a k:Int) (Q:Bm) (R:Bz):ABc 0 0 (rrS [7,8]) (AAp 15) Q R (st vq [Ao 20 m,.int .u8 a,.int .u16 k] (hp [.vec JQ l true]))=(
 (m=l.length/\WI l (Mc m) 0 Oo)/\(bif Int.tmod a 4==0 then(R (AAz l (wO l m).d (wO l m).L (wO l m).u 6 128 2 200 8 16 1))else(bif Int.tmod a 4==1 then(R (AAz l (wO l m).d (wO l m).L (wO l m).u 5 128 (IntKind.wrap .i64 (4+IntKind.wrap .i64 k)) 200 8 16 1))else(bif Int.tmod a 4==2 then(R (AAz l (wO l m).d (wO l m).L (wO l m).u 5 128 2 200 8 16 (IntKind.wrap .i64 (3+IntKind.wrap .i64 k))))else(R (AAz l (wO l m).d (wO l m).L (wO l m).u 0 0 0 0 0 0 0)))))):=by kernel_rfl
def rrG:AP:=cfC 5 128 2 200 8 16 1
def ABw (l:List B2) (d c:Ab) (L:Nat->Aw) (u:Nat->Int):BT:=⟨AB4 (EZ [(7,At 21),(10,At 22),(13,int 2),(14,At 23)]) (ACT 14),[],hp ([.vec JQ l true,rfC 24 L u,rrG,.abs (.pack (.dev c)) false]++rfR d L)⟩
def ACK (l:List B2) (d:Ab) (L:Nat->Aw) (u:Nat->Int):BT:=⟨AB4 (EZ [(7,At 21),(10,At 22)]) (ACT 18),[],hp ([.vec JQ l true,rfC 23 L u,rrG]++rfR d L)⟩
def ABt (l:List B2) (d:Ab) (L:Nat->Aw) (u:Nat->Int) (o1 o2:Ad):BT:=⟨AB4 (EZ [(7,At 21),(10,At 22),(22,Ao 23 18),(23,Ao 24 19)]) (ADO 20),[],hp ([.vec JQ l true,rfC 25 L u,rrG,.vec kB o1 false,.vec kB o2 false]++rfR d L)⟩
def ACE (l:List B2) (d c:Ab) (L:Nat->Aw) (u:Nat->Int):BT:=⟨AB4 (EZ [(7,At 21),(10,At 22),(13,int 6),(14,At 23),(24,.pointer none)]) (ACT 24),[],hp ([.vec JQ l true,rfC 24 L u,rrG,.abs (.pack (.dev c)) false]++rfR d L)⟩
def ACJ (l:List B2) (c:Ab):BT:=⟨AB4 (EZ [(13,int 6),(14,At 21),(17,int 6),(24,.pointer none)]) (ACT 25),[],hp [.vec JQ l true,.abs (.pack (.dev c)) false]⟩
theorem ACz (l:List B2) (d:Ab) (L:Nat->Aw) (u:Nat->Int) (s z r w k v p:Int) (Q:Bm) (R:Bz):ABc 0 0 (rrS [7,10,14,13]) (AAp 24) Q R (AAz l d L u s z r w k v p)=(
 let b:=((int 2):Value)=(int 2);let a:=Kd d 0 false [0];(BdC d s z r w k v p false)/\b/\(((.pointer none):Value)=(.pointer none))/\b/\(ACR d)/\(1=List.length [0]/\1 < 1000)/\(((int a.1):Value)=(int 0))/\(BdC a.2 s z r w k v p false)/\(R (ABw l d a.2 L u))):=by kernel_rfl
theorem ACr (l:List B2) (d c:Ab) (L:Nat->Aw) (u:Nat->Int) (Q:Bm) (R:Bz):ABc 1 0 (rrS [7,10]) (AAp 29) Q R (ABw l d c L u)=(
 (BdC c 5 128 2 200 8 16 1 true/\Ab.down c=true)/\(0 < Ab.AR c/\Ab.down c=true)/\(0 < Ab.AR c)/\(bif Ab.AR c==0 then(Q (.bool false) [])else(((.bool (Ab.down c)):Value)=(.bool true))/\(0 < Ab.AR (id c))/\(bif Ab.AR (id c)==0 then(Q (.bool false) [])else(((.bool (Ab.down (id c))):Value)=(.bool true))/\(R (ACK l d L u))))):=by kernel_rfl
theorem ACx (l:List B2) (d:Ab) (L:Nat->Aw) (u:Nat->Int) (Q:Bm) (R:Bz):ABc 0 0 (rrS [7,10,22,23]) (AAp 31) Q R (ACK l d L u)=(
 ((true)=(true))/\((true)=(true))/\(R (ABt l d L u (List.take (Bu { data:=#[113] } { data:=#[49] }) (List.drop 0 (E3 1 100 { data:=#[113] } { data:=#[49] }))) (List.take (Bu { data:=#[113] } { data:=#[49,50] }) (List.drop 0 (E3 1 100 { data:=#[113] } { data:=#[49,50] })))))):=by kernel_rfl
theorem AC2 (l:List B2) (d:Ab) (L:Nat->Aw) (u:Nat->Int) (o1 o2:Ad) (Q:Bm) (R:Bz):ABc 0 6 (rrS [7,10,13,14,24]) (AAp 37) Q R (ABt l d L u o1 o2)=(
 let j:=List.replicate 36 0;let i:=Ma d 3 Jj BP.done;let f:=((At 21):Value)=(At 21);let c:=List.take 0 (List.drop 0 j)++List.take 18 (List.drop 0 o1);let e:=List.take 18 (List.drop 0 c)++List.take 18 (List.drop 0 o1);let b:=Ma i.2 4 Jj BP.done;let g:=DX b.2 3 (List.take 18 o1);let h:=DX g.2 4 (List.take 19 o2);let a:=DX b.2 3 (List.take 36 e);(((int i.1):Value)=(int 0))/\(((int b.1):Value)=(int 0))/\(ACR b.2)/\(bif Nat.ble 18 o1.length&&Nat.ble 0 j.length&&BQ 1 18 then(bif Nat.ble 18 o1.length&&Nat.ble 18 c.length&&BQ 1 36 then(((At 25):Value)=(At 25))/\f/\f/\f/\(36<=e.length)/\(((int a.1):Value)=(int 0))/\(18<=o1.length)/\(((int g.1):Value)=(int 0))/\(19<=o2.length)/\(((int h.1):Value)=(int 0))/\(ScC a.2 (6:Int))/\(R (ACE l a.2 h.2 L u))else False)else False)):=by kernel_rfl
theorem AC5 (l:List B2) (d c:Ab) (L:Nat->Aw) (u:Nat->Int) (Q:Bm) (R:Bz):ABc 2 6 (rrS [13,14,17,24]) (AAp 38) Q R (ACE l d c L u)=(
 (BdC d 5 128 2 200 8 16 1 true/\ScC d 6)/\(R (ACJ l c))):=by kernel_rfl
theorem ACv (l:List B2) (c:Ab) (Q:Bm) (R:Bz):ABc 0 2 (rrS []) Jo Q R (ACJ l c)=(
 (ScC c (2:Int))/\(Q (.bool true) [])):=by kernel_rfl
theorem oo {a x t:Nat} (ht:t < 8) (ha:a < 2 ^ (8 * t)) (hx:x < 256):yD (a:Int) (x:Int) (8 * t)=((a+2 ^ (8 * t) * x:Nat):Int):=by
 have hp:2 ^ (8 * t)<=2 ^ 56:=Nat.pow_le_pow_right (by decide) (by omega);have hp56:(2:Nat) ^ 56=72057594037927936:=by decide
 have hmul:2 ^ (8 * t) * x<=2 ^ 56 * 255:=Nat.mul_le_mul hp (by omega);have hsum:a+2 ^ (8 * t) * x < 18446744073709551616:=by omega
 unfold yD;have e0:min (8 * t) (IntKind.bits .u64)=8 * t:=bV (by show 8 * t<=64;omega);rw[e0];have e1:IntKind.wrap .u64 (x:Int)=(x:Int):=M9 (by omega) (by omega);rw[e1];have e2:((x:Int) * 2 ^ (8 * t))=((2 ^ (8 * t) * x:Nat):Int):=by
  rw[kp,Int.mul_comm,Int.natCast_pow];rfl
 have e5:IntKind.wrap .u64 ((2 ^ (8 * t) * x:Nat):Int)=((2 ^ (8 * t) * x:Nat):Int):=M9 (by omega) (by omega);rw[e2,e5];have e3:∀y:Nat,BitVec.toNat (BitVec.ofInt (IntKind.bits .u64) (y:Int))=y % 2 ^ 64:=fun y=>by
  show BitVec.toNat (BitVec.ofInt 64 (y:Int))=_;rw[BitVec.ofInt_natCast,BitVec.toNat_ofNat]
 have e4:(BitVec.ofInt (IntKind.bits .u64) (a:Int) ||| BitVec.ofInt (IntKind.bits .u64) ((2 ^ (8 * t) * x:Nat):Int)).toNat=a+2 ^ (8 * t) * x:=by
  rw[BitVec.toNat_or,e3,e3,ch (by omega),ch (by omega)];have h:=Nat.shiftLeft_add_eq_or_of_lt ha x;rw[Nat.shiftLeft_eq,fY]at h;rw[Nat.or_comm,<-h,jh]
 rw[e4];exact M9 (by omega) (by omega)
theorem VX {g:Nat->Int} {Q:Nat}:∀(w:Nat),w<=8->(∀t,t < w->g t=((Q / 2 ^ (8 * t) % 256:Nat):Int))->JU g w=((Q % 2 ^ (8 * w):Nat):Int)
 | 0,_,_=>by
  show(0:Int)=((Q % 2 ^ 0:Nat):Int);rw[jr,Nat.mod_one];rfl
 | w+1,hw,hg=>by
  unfold JU;rw[VX w (by omega) (fun t ht=>hg t (by omega)),hg w (by omega)];rw[oo (by omega) (bY _ (Nat.two_pow_pos _)) (bY _ (by decide))]
  congr 1
  have e:(2:Nat) ^ (8 * (w+1))=2 ^ (8 * w) * 256:=by rw[show 8 * (w+1)=8 * w+8 from by omega,Nat.pow_add]
  rw[e,Nat.mod_mul]
theorem l5 {Q w t:Nat} (ht:t < w) (hw:w<=8):(IM (Q:Int) w)[t]? = some ((Q / 2 ^ (8 * t) % 256:Nat):Int):=by
 unfold IM;rw[LW,pb ht,WE]
 congr 1
 have e0:min (8 * t) (IntKind.bits .u64)=8 * t:=bV (by show 8 * t<=64;omega);rw[e0];have e1:(2:Int) ^ (8 * t)=((2 ^ (8 * t):Nat):Int):=(Int.natCast_pow 2 (8 * t)).symm;rw[e1,ZE _ (WQ _),<-Int.natCast_ediv];generalize Q / 2 ^ (8 * t)=y;simp[IntKind.wrap,IntKind.bits,IntKind.signed]
theorem mX {l:Ad} {p Q w:Nat} (hw:w<=8) (hQ:Q < 2 ^ (8 * w)) (hl:∀t,t < w->l[p+t]? = (IM (Q:Int) w)[t]?):JU (EC l p) w=(Q:Int):=by
 rw[VX (Q:=Q) w hw fun t ht=>?_,ch hQ];unfold EC;rw[F5,hl t ht,l5 ht hw];rfl
theorem Lt (s:As):Fy (B1 s)=s:=by
 unfold Fy B1;rw[uk];have:(s.data.toList.map ((fun n:Int=>UInt8.ofNat n.toNat) ∘ fun b=>(b.toNat:Int)))=s.data.toList:=by
  refine(ib (g:=id) fun b _=>?_).trans (gO _);show UInt8.ofNat ((b.toNat:Int)).toNat=b;rw[HR];exact UInt8.ofNat_toNat
 rw[this]
def Tf (l:Ad) (j:Nat) (bs:Ad):Prop:=∀t,t < bs.length->l[j+t]? = bs[t]?
theorem Tf.left {l:Ad} {j:Nat} {A B:Ad} (h:Tf l j (A++B)):Tf l j A:=fun t ht=>by
 rw[h t (by rw[Fu];omega),Y5 ht]
theorem Tf.right {l:Ad} {j:Nat} {A B:Ad} (h:Tf l j (A++B)):Tf l (j+A.length) B:=fun t ht=>by
 have:=h (A.length+t) (by rw[Fu];omega);rw[WO (Nat.le_add_right _ _),sQ]at this;rw[XY,this]
theorem Tf.take {l:Ad} {j:Nat} {A:Ad} (h:Tf l j A):(l.drop j).take A.length=A:=by
 apply To
 intro t;rw[Yy,Vs];split
 ·rename_i ht;exact h t ht
 ·rename_i ht;rw[NC (by omega)]
theorem Tf.num {l:Ad} {j Q w:Nat} (h:Tf l j (IM (Q:Int) w)) (hw:w<=8) (hQ:Q < 2 ^ (8 * w)):JU (EC l j) w=(Q:Int):=
 mX hw hQ fun t ht=>h t (by rw[JX];exact ht)
theorem o6 {l:Ad} {j:Nat} {S K A B Q:Nat} (hS:S < 4294967296) (hK:K < 256) (hA:A < 256) (hB:B < 65536) (hQ:Q < 9223372036854775808) (h:Tf l j (UD S K A B Q)):BS l j=⟨S,K,A,B,Q⟩:=by
 unfold UD at h;have h8:=h.right;have h6:=h.left.right;have h5:=h.left.left.right;have h4:=h.left.left.left.right;have h0:=h.left.left.left.left;simp only[Fu,JX]at h8 h6 h5 h4;have n0:=h0.num (by decide) (by rw[show(2:Nat) ^ (8 * 4)=4294967296 from by decide];exact hS);have n4:=h4.num (by decide) (by rw[show(2:Nat) ^ (8 * 1)=256 from by decide];exact hK);have n5:=h5.num (by decide) (by rw[show(2:Nat) ^ (8 * 1)=256 from by decide];exact hA);have n6:=h6.num (by decide) (by rw[show(2:Nat) ^ (8 * 2)=65536 from by decide];exact hB);have n8:=h8.num (by decide) (by rw[show(2:Nat) ^ (8 * 8)=18446744073709551616 from by decide];omega);unfold BS;rw[show j+(4+1)=j+5 from rfl]at n5;rw[show j+(4+1+1)=j+6 from rfl]at n6;rw[show j+(4+1+1+2)=j+8 from rfl]at n8;rw[kj,n0,n4,n5,n6,n8];have w32:IntKind.wrap .u32 (S:Int)=(S:Int):=by simp[IntKind.wrap,IntKind.bits,IntKind.signed];omega
 have w64':∀x:Nat,x < 9223372036854775808->IntKind.wrap .i64 (x:Int)=(x:Int):=fun x hx=>wrap64 (by omega) (by omega)
 rw[w32,w64' K (by omega),w64' A (by omega),w64' B (by omega),w64' Q hQ]
structure C2 where
 k:Nat
 q:Nat
 a:As
 b:As
def C2.ok (r:C2):Prop:=DR r.k r.q r.a r.b=true
def C2.bytes (r:C2):Ad:=E3 r.k r.q r.a r.b
def C2.size (r:C2):Nat:=Bu r.a r.b
theorem C2.len (r:C2):r.bytes.length=r.size:=E9 _ _ _ _
theorem U1 {r:C2} (h:r.ok) {l:Ad} {j:Nat} (hp:Tf l j (UD (EA r.k r.q r.a r.b) r.k r.a.size r.b.size r.q)):BS l j=⟨EA r.k r.q r.a r.b,r.k,r.a.size,r.b.size,r.q⟩:=by
 have hF:=JH h;obtain⟨s0,s1⟩:=aA 0 (Wq r.k r.q r.a r.b);have hs:EA r.k r.q r.a r.b=Er 0 (Wq r.k r.q r.a r.b):=rfl;rw[<-hs]at s0 s1;obtain⟨S,hS⟩:∃S:Nat,EA r.k r.q r.a r.b=(S:Int):=⟨(EA r.k r.q r.a r.b).toNat,by omega⟩
 rw[hS]at hp ⊢ s1;have q1:=hF.q1;have a1:=hF.a1;have b1:=hF.b1;have hk:=hF.hk;exact o6 (by omega) (by rcases hk with hk | ⟨hk,_⟩<;>omega) (by omega) (by omega) (by omega) hp
theorem me {r:C2} (h:r.ok) (S:Int):Ex ⟨S,r.k,r.a.size,r.b.size,r.q⟩=true/\((r.k:Int)==3)=false:=by
 have hF:=JH h;have q0:=hF.q0;have q1:=hF.q1;have a0:=hF.a0;have a1:=hF.a1;have b1:=hF.b1;have d:∀{p:Prop} [Decidable p],p->decide p=true:=fun h=>Fp h
 have b0:(0:Int)<=(r.b.size:Int):=WQ _;rcases hF.hk with hk | ⟨hk,hb⟩
 ·rw[hk];refine⟨?_,rfl⟩;unfold Ex mQ;show(decide ((r.a.size:Int)≥1)&&decide ((r.a.size:Int)<=32)&&decide ((r.b.size:Int)≥0)&&decide ((r.b.size:Int)<=512)&&decide ((r.q:Int)≥1)&&decide ((r.q:Int)<=1099511627776))=true;rw[d (show(r.a.size:Int)≥1 by omega),d (show(r.a.size:Int)<=32 by omega),d (show(r.b.size:Int)≥0 by omega),d (show(r.b.size:Int)<=512 by omega),d (show(r.q:Int)≥1 by omega),d (show(r.q:Int)<=1099511627776 by omega)];rfl
 ·rw[hk];refine⟨?_,rfl⟩;unfold Ex mQ;show(decide ((r.a.size:Int)≥1)&&decide ((r.a.size:Int)<=32)&&decide ((r.b.size:Int)≥0)&&decide ((r.b.size:Int)<=0)&&decide ((r.q:Int)≥1)&&decide ((r.q:Int)<=1099511627776))=true;rw[d (show(r.a.size:Int)≥1 by omega),d (show(r.a.size:Int)<=32 by omega),d (show(r.b.size:Int)≥0 by omega),d (show(r.b.size:Int)<=0 by omega),d (show(r.q:Int)≥1 by omega),d (show(r.q:Int)<=1099511627776 by omega)];rfl
theorem jV {r:C2} {S:Int}:JT ⟨S,r.k,r.a.size,r.b.size,r.q⟩=r.size:=rfl
theorem dH {r:C2} (h:r.ok) {l:Ad} {j n:Nat} (hp:Tf l j r.bytes) (hn:r.size<=n):GO l j n=true/\JT (BS l j)=r.size/\(BS l j).k=r.k/\(BS l j).q=r.q/\Nw l j=r.a/\RP l j=r.b:=by
 have hp':Tf l j (UD (EA r.k r.q r.a r.b) r.k r.a.size r.b.size r.q++(B1 r.a++B1 r.b)):=hp;have hh:=U1 h hp'.left;have h16:16<=r.size:=by unfold C2.size Bu;omega
 have hA:=hp'.right.left;have hB:=hp'.right.right;rw[LJ]at hA hB;rw[C0]at hB;have eK:Nw l j=r.a:=by
  unfold Nw;rw[hh];have:=hA.take;rw[C0]at this;show Fy ((l.drop (j+16)).take r.a.size)=_;rw[this,Lt]
 have eW:RP l j=r.b:=by
  unfold RP;rw[hh];have:=hB.take;rw[C0]at this;show Fy ((l.drop (j+16+r.a.size)).take r.b.size)=_;rw[this,Lt]
 refine⟨?_,by rw[hh];rfl,by rw[hh],by rw[hh],eK,eW⟩;unfold GO;rw[eK,eW,hh,jV];obtain⟨c1,c2⟩:=me h (EA r.k r.q r.a r.b);rw[c1];have e1:(decide (Int.ofNat n < 16))=false:=GP (by show ¬((n:Int) < 16);omega);rw[e1,B0 hn];have e2:Er 0 ((l.drop (j+4)).take (r.size - 4))=EA r.k r.q r.a r.b:=by
  have:=hp.take;rw[r.len]at this;have e:(l.drop (j+4)).take (r.size - 4)=r.bytes.drop 4:=by
   rw[<-this,uW,qX]
  rw[e];unfold EA
  congr 1
 rw[e2];show(!false&&(true&&(!((r.k:Int)==3)&&(true&&((EA r.k r.q r.a r.b==EA r.k r.q r.a r.b)&&DR r.k r.q r.a r.b)))))=true;rw[c2,ny,show DR r.k r.q r.a r.b=true from h];rfl
theorem ic {r:C2} (h:r.ok) {l:Ad} {j n:Nat} (hp:Tf l j (r.bytes.take n)) (hn:n < r.size):GO l j n=false:=by
 unfold GO
 by_cases h16:n < 16
 ·rw[Fp (show Int.ofNat n < 16 by show(n:Int) < 16;omega)];rfl
 ·have hp16:Tf l j (UD (EA r.k r.q r.a r.b) r.k r.a.size r.b.size r.q):=by
   intro t ht;rw[LJ]at ht;have:=hp t (by rw[IP,r.len];omega);rw[this,Yy,HI (by omega)];unfold C2.bytes E3;rw[Y5 (by rw[LJ];exact ht)]
  rw[U1 h hp16,jV];have:Nat.ble r.size n=false:=by
   cases hb:Nat.ble r.size n
   ·rfl
   ·have:=VC hb;omega
  rw[this];cases decide (Int.ofNat n < 16)<;>cases Ex _<;>simp
def B3 (rs:List C2):Ad:=rs.flatMap C2.bytes
def Ou (s:Int) (off:Nat) (r:C2):NQ:=((r.q:Int),r.a,(r.k:Int)==2,s,(off:Int),(r.size:Int))
def D4 (s:Int):Nat->List C2->Aw
 | _,[]=>[]
 | off,r::rs=>Ou s off r::D4 s (off+r.size) rs
def Q4 (n:Nat):Nat->List C2->List C2
 | _,[]=>[]
 | off,r::rs=>if off+r.size<=n then r::Q4 n (off+r.size) rs else []
theorem C2.Xo (r:C2):16<=r.size:=by unfold C2.size Bu;omega
theorem Ss {l:Ad} {s:Int}:∀(rs:List C2) (f off:Nat),(∀r∈rs,r.ok)->off<=l.length->l.length - off<=f->l.length<=off+(B3 rs).length->Tf l off ((B3 rs).take (l.length - off))->GS l 0 l.length s f off=D4 s off (Q4 l.length off rs)
 | [],f,off,_,h1,_,h3,_=>by
  have h3:l.length<=off+0:=h3;have e:l.length - off=0:=by omega
  cases f with
  | zero=>rfl
  | succ f=>
   unfold GS;have:GO l (0+off) (l.length - off)=false:=by
    rw[e];unfold GO;rfl
   rw[this];rfl
 | r::rs,f,off,hok,h1,h2,h3,hp=>by
  have hr:=hok r (SD ..);have h16:=r.Xo;have hB:B3 (r::rs)=r.bytes++B3 rs:=rfl;rw[hB]at h3 hp;rw[Fu,r.len]at h3;cases f with
  | zero=>
   have e:off=l.length:=by omega
   unfold Q4;rw[E7 (by omega)];rfl
  | succ f=>
   unfold GS Q4;rw[Hq]
   by_cases hf:off+r.size<=l.length
   ·have hw:Tf l off r.bytes:=by
     intro t ht;have:=hp t (by rw[IP,Fu];rw[r.len]at ht ⊢;omega);rw[this,Yy,HI (by rw[r.len]at ht;omega),Y5 ht]
    obtain⟨c1,c2,c3,c4,c5,c6⟩:=dH hr hw (show r.size<=l.length - off by omega);rw[c1,Al,HI hf];have ih:=Ss (l:=l) (s:=s) rs f (off+r.size) (fun x hx=>hok x (ZH _ hx)) hf (by omega) (by omega) (by
     intro t ht;rw[IP]at ht;have:=hp (r.size+t) (by rw[IP,Fu,r.len];omega);rw[Yy,HI (by omega),WO (by rw[r.len];omega),r.len,sQ]at this;rw[XY,this,Yy,HI (by omega)])
    rw[c2,ih];show TL l 0 s off::_=Ou s off r::_
    congr 1
    unfold TL Ou;rw[Hq,c3,c4,c5,c6];rfl
   ·have hpt:Tf l off (r.bytes.take (l.length - off)):=by
     rw[A6 (by rw[r.len];omega)]at hp;exact hp
    rw[ic hr hpt (by omega),E7 hf];rfl
theorem aU {n:Nat}:∀(rs:List C2) (off:Nat),off+(B3 rs).length<=n->Q4 n off rs=rs
 | [],_,_=>rfl
 | r::rs,off,h=>by
  have hB:B3 (r::rs)=r.bytes++B3 rs:=rfl;rw[hB,Fu,r.len]at h;unfold Q4;rw[HI (by omega),aU rs (off+r.size) (by omega)]
structure lh (x:Cm) (used:Int->Prop) (c:Nat):Prop where
 key:∀p∈x.keys,∀e∈p.2,used e.1
 kl:x.keys.length<=c
 ll:∀p∈x.keys,p.2.length<=c
structure xe (ls:Aw) (o:Int):Prop where
 all:∀e∈ls,0<=e.2.2.2.2.1/\1<=e.2.2.2.2.2/\e.2.2.2.2.1+e.2.2.2.2.2<=o
theorem WT {l:Aw} {m:Nat} (h:m < l.length):DI l m∈l:=by
 unfold DI;rw[F5,FL h];exact vP h
theorem ab {ls:Aw} {o:Int} (h:xe ls o):J7 ls o=ls.length:=by
 show Xc (fun m=>decide (G8 ls o m < 0)) ls.length 0 ls.length=ls.length;refine ZP _ ls.length ls.length 0 ls.length (by omega) (PM _) (CC _) fun m _ hm=>⟨fun _=>hm,fun _=>Fp ?_⟩
 obtain⟨h0,h1,h2⟩:=h.all _ (WT hm);unfold G8 LP;have hlt:(DI ls m).2.2.2.2.1 < o:=by omega
 simp[hlt]
theorem nu {ls:Aw} {o z:Int} (h:xe ls o) (ho:o<=1000000):S4 ls o z=false:=by
 unfold S4;rw[ab h];unfold Z7;rw[GP (iD ls.length),bG,bG,j4,V1]
 by_cases hl:(ls.length:Int) > 0
 ·obtain⟨h0,h1,h2⟩:=h.all _ (WT (l:=ls) (m:=ls.length - 1) (by omega));rw[wrap64 (by omega) (by omega),GP (show ¬(DI ls (ls.length - 1)).2.2.2.2.1+(DI ls (ls.length - 1)).2.2.2.2.2 > o from by omega),ni]
 ·rw[GP hl,bG]
theorem QC {q:Int} {a:As} {d:Bool} {s z:Int}:∀(l:Aw) (hv:Bool),(∀e∈l,e.1≠q)->Ke q a d s z l hv=some hv
 | [],_,_=>rfl
 | e::r,hv,h=>by
  have h1:(e.1==q)=false:=fH.2 (h e (SD ..));unfold Ke;have hb:Qk q a d z e=false:=by unfold Qk;rw[h1];rfl
  have hs:PB q s e=false:=by unfold PB;rw[h1];rfl
  rw[hb,hs,AN,V1];exact QC r hv fun x hx=>h x (ZH _ hx)
theorem lH {x:Cm} {used:Int->Prop} {c:Nat} (h:lh x used c) (a:As):(∀e∈Mz x a,used e.1)/\(Mz x a).length<=c:=by
 cases hh:Ie x a
 ·have:Mz x a=[]:=by unfold Mz;rw[hh];rfl
  rw[this];exact⟨fun e he=>(by cases he),PM _⟩
 ·obtain⟨k,hk,_⟩:=jN hh;have hm:=VE hk;exact⟨fun e he=>h.key _ hm e he,h.ll _ hm⟩
theorem jj {l:Aw} {i:Nat} {e y:NQ} (h:y∈HF l i e):y∈l∨y=e:=by
 unfold HF at h;rcases List.mem_append.1 h with h | h
 ·exact .inl (oV h)
 ·rcases List.mem_cons.1 h with h | h
  ·exact .inr h
  ·exact .inl (jW h)
theorem sE {x:Cm} {used:Int->Prop} {c s:Nat} {q:Int} {a:As} {d:Bool} {o z:Int} (hx:lh x used c) (hc:c < 70000) (hs:s < x.AR.length) (hE:Mt q a d o z) (hq:¬used q) (hb:xe (C7 x s) o) (hsl:(C7 x s).length<=c):
 kF x (q,a,d,(s:Int),o,z)/\(fC x (q,a,d,(s:Int),o,z)).AR=x.AR.set s (C7 x s++[(q,a,d,(s:Int),o,z)])/\lh (fC x (q,a,d,(s:Int),o,z)) (fun t=>used t∨t=q) (c+1):=by
 obtain⟨u1,u2⟩:=lH hx a;have o1:o<=1000000:=by have:=hE.oz;have:=hE.z0;omega
 have hok:Lr x q a d s o z:=⟨hE,hs,by have:=hx.kl;omega,by omega,by omega⟩;have hne:∀e∈Mz x a,e.1≠q:=fun e he h=>hq (by rw[<-h];exact u1 e he)
 have hres:El x q a d s o z=0:=by
  unfold El ao;rw[QC _ _ hne,nu hb o1];rfl
 have hb0:(El x q a d s o z==0)=true:=by rw[hres];rfl
 have hX:fC x (q,a,d,(s:Int),o,z)=⟨Lq x q a d s o z,x.AR.set s (HF (C7 x s) (J7 (C7 x s) o) (q,a,d,(s:Int),o,z))⟩:=by
  show JO x q a d (Int.toNat (s:Int)) o z=_;rw[HR];unfold JO;rw[hb0,Al]
 refine⟨⟨⟨by rw[HR],by rw[HR];exact hok⟩,by rw[HR];exact hres⟩,?_,?_⟩
 ·rw[hX];show x.AR.set s _=_;rw[ab hb];unfold HF;rw[cl,jI]
 ·rw[hX];cases hh:Ie x a
  ·have hk:Lq x q a d s o z=x.keys.take (Ey x a)++((a,[(q,a,d,(s:Int),o,z)])::x.keys.drop (Ey x a)):=by unfold Lq;rw[hh];rfl
   refine⟨fun p hp e he=>?_,?_,fun p hp=>?_⟩
   ·rw[hk]at hp;rcases List.mem_append.1 hp with hp | hp
    ·exact .inl (hx.key p (oV hp) e he)
    ·rcases List.mem_cons.1 hp with hp | hp
     ·subst hp;rw[I6]at he;rw[he];exact .inr rfl
     ·exact .inl (hx.key p (jW hp) e he)
   ·show(Lq x q a d s o z).length<=_;have:=hx.kl;rw[hk,Fu,IP,ZC,MQ];omega
   ·rw[hk]at hp;rcases List.mem_append.1 hp with hp | hp
    ·have:=hx.ll p (oV hp);omega
    ·rcases List.mem_cons.1 hp with hp | hp
     ·subst hp;show 1<=c+1;omega
     ·have:=hx.ll p (jW hp);omega
  ·have hk:Lq x q a d s o z=x.keys.set (Ey x a) ((x.keys.getD (Ey x a) (a,[])).1,HF (Mz x a) (PH (Mz x a).length (E5 (Mz x a) q s)) (q,a,d,(s:Int),o,z)):=by unfold Lq;rw[hh];rfl
   refine⟨fun p hp e he=>?_,?_,fun p hp=>?_⟩
   ·rw[hk]at hp;rcases q7 hp with hp | hp
    ·exact .inl (hx.key p hp e he)
    ·subst hp;rcases jj he with he | he
     ·exact .inl (u1 e he)
     ·rw[he];exact .inr rfl
   ·show(Lq x q a d s o z).length<=_;have:=hx.kl;rw[hk,Ly];omega
   ·rw[hk]at hp;rcases q7 hp with hp | hp
    ·have:=hx.ll p hp;omega
    ·subst hp;show(HF _ _ _).length<=_;rw[NP aj];omega
theorem mW {r:C2} (h:r.ok):I1 r.a=0:=by
 unfold C2.ok DR at h;simp only[DL,Vv]at h;exact h.1.2
theorem dA {r:C2} (h:r.ok) {off:Nat} (hb:off+r.size<=8192):Mt r.q r.a ((r.k:Int)==2) off r.size:=by
 have hF:=JH h;have b1:=hF.b1;have a1:=hF.a1;have hsz:r.size=16+r.a.size+r.b.size:=rfl;refine⟨mW h,hF.q0,hF.q1,WQ _,by omega,?_,by omega,by omega⟩;rcases hF.hk with hk | ⟨hk,hb0⟩
 ·right;rw[hk];rfl
 ·left;omega
theorem fA {x:Cm} {s:Nat} (hs:s < x.AR.length) (l:Aw) (_K:List (As × Aw)) (y:Cm) (hy:y.AR=x.AR.set s l):C7 y s=l:=by
 unfold C7;rw[hy];exact Dp hs
theorem bT {s:Nat}:∀(rs:List C2) (x:Cm) (used:Int->Prop) (c off:Nat),lh x used c->c+rs.length < 70000->s < x.AR.length->(∀r∈rs,r.ok)->off+(B3 rs).length<=8192->(rs.map C2.q).Nodup->(∀r∈rs,¬used (r.q:Int))->xe (C7 x s) off->(C7 x s).length<=c->
 Zq x (D4 s off rs)/\(Nh x (D4 s off rs)).AR=x.AR.set s (C7 x s++D4 s off rs)/\lh (Nh x (D4 s off rs)) (fun t=>used t∨∃r∈rs,t=(r.q:Int)) (c+rs.length)
 | [],x,used,c,off,hx,_,hs,_,_,_,_,_,_=>by
  refine⟨trivial,?_,?_⟩
  ·show x.AR=x.AR.set s (C7 x s++[]);rw[eA,KU (Jc hs)]
  ·exact⟨fun p hp e he=> .inl (hx.key p hp e he),hx.kl,hx.ll⟩
 | r::rs,x,used,c,off,hx,hc,hs,hok,hoff,hnd,hun,hbe,hsl=>by
  have hB:B3 (r::rs)=r.bytes++B3 rs:=rfl;rw[hB,Fu,r.len]at hoff;rw[ZC]at hc;have hr:=hok r (SD ..);have hnd:=List.nodup_cons.1 (show(r.q::rs.map C2.q).Nodup from hnd);obtain⟨h1,h2,h3⟩:=sE hx (by omega) hs (dA hr (by omega)) (hun r (SD ..)) hbe hsl;have e:D4 s off (r::rs)=((r.q:Int),r.a,(r.k:Int)==2,(s:Int),(off:Int),(r.size:Int))::D4 s (off+r.size) rs:=rfl;generalize hen:((r.q:Int),r.a,(r.k:Int)==2,(s:Int),(off:Int),(r.size:Int))=en at h1 h2 h3 e;have hsl2:C7 (fC x en) s=C7 x s++[en]:=fA hs _ [] _ h2;have hlen:(fC x en).AR.length=x.AR.length:=by rw[h2,Ly]
  obtain⟨k1,k2,k3⟩:=bT rs (fC x en) (fun t=>used t∨t=(r.q:Int)) (c+1) (off+r.size) h3 (by omega) (by rw[hlen];exact hs) (fun y hy=>hok y (ZH _ hy)) (by omega) hnd.2 (fun y hy hu=>by
   rcases hu with hu | hu
   ·exact hun y (ZH _ hy) hu
   ·exact hnd.1 (List.mem_map.2 ⟨y,hy,by omega⟩)) (by
   rw[hsl2];refine⟨fun y hy=>?_⟩;rcases List.mem_append.1 hy with hy | hy
   ·obtain⟨q1,q2,q3⟩:=hbe.all y hy;exact⟨q1,q2,by omega⟩
   ·rw[I6]at hy;rw[hy,<-hen];have:=r.Xo;exact⟨WQ _,by show(1:Int)<=(r.size:Int);omega,by show(off:Int)+(r.size:Int)<=_;omega⟩) (by rw[hsl2,Fu];show _+1<=_;omega)
  rw[e];refine⟨⟨h1,k1⟩,?_,?_⟩
  ·show(Nh (fC x en) (D4 s (off+r.size) rs)).AR=_;rw[k2,h2,hsl2,Ul,Sa];rfl
  ·refine⟨fun p hp y hy=>?_,?_,fun p hp=>?_⟩
   ·rcases k3.key p hp y hy with(h | h) | ⟨r2,h4,h5⟩
    ·exact .inl h
    ·exact .inr ⟨r,SD ..,h⟩
    ·exact .inr ⟨r2,ZH _ h4,h5⟩
   ·have:=k3.kl;show(Nh (fC x en) (D4 s (off+r.size) rs)).keys.length<=_;rw[ZC];omega
   ·have:=k3.ll p hp;rw[ZC];omega
abbrev ADP:=Op.bytesLess
theorem ABn:∀x:List UInt8,ADP x x=false
 | []=>rfl
 | a::x=>by
  show(decide (a < a)||(a==a&&ADP x x))=false;rw[ABn x,ni,V1];exact GP (UInt8.lt_irrefl a)
theorem ACD (x:List UInt8):ADP x []=false:=by cases x<;>rfl
theorem AAU:∀{x y z:List UInt8},ADP x y=true->ADP y z=true->ADP x z=true
 | _,y,[],_,h=>by rw[ACD]at h;cases h
 | x,[],_::_,h,_=>by rw[ACD]at h;cases h
 | [],_::_,_::_,_,_=>rfl
 | a::x,b::y,c::z,g1,g2=>by
  have g1:(decide (a < b)||(a==b&&ADP x y))=true:=g1;have g2:(decide (b < c)||(b==c&&ADP y z))=true:=g2;show(decide (a < c)||(a==c&&ADP x z))=true;simp only[ia,DL,Mr,Vv]at g1 g2 ⊢;rcases g1 with h1 | ⟨e1,h1⟩<;>rcases g2 with h2 | ⟨e2,h2⟩
  ·exact .inl (UInt8.lt_trans h1 h2)
  ·rw[<-e2];exact .inl h1
  ·rw[e1];exact .inl h2
  ·exact .inr ⟨e1.trans e2,AAU h1 h2⟩
theorem ACS:∀{x y:List UInt8},ADP x y=false->x≠y->ADP y x=true
 | [],[],_,h=>absurd rfl h
 | [],_::_,h,_=>by cases h
 | _::_,[],_,_=>rfl
 | a::x,b::y,h,hne=>by
  have h:(decide (a < b)||(a==b&&ADP x y))=false:=h;show(decide (b < a)||(b==a&&ADP y x))=true;simp only[jk,DV,jF,fH]at h;simp only[ia,DL,Mr,Vv];obtain⟨h1,h2⟩:=h
  by_cases e:a=b
  ·subst e;rcases h2 with h2 | h2
   ·exact absurd rfl h2
   ·exact .inr ⟨rfl,ACS h2 fun e=>hne (by rw[e])⟩
  ·left
   rcases UInt8.lt_or_lt_of_ne e with h | h
   ·exact absurd h h1
   ·exact h
def Srt (l:List (List UInt8)):Prop:=l.Pairwise fun a b=>ADP a b=true
def rk (l:List (List UInt8)) (k:List UInt8):Nat:=Xc (fun m=>ADP (l.getD m []) k) l.length 0 l.length
theorem ACo {k:List UInt8}:∀{l:List (List UInt8)},Srt l->∃r,r<=l.length/\∀m,m < l.length->(ADP (l.getD m []) k=true ↔ m < r)
 | [],_=>⟨0,CC _,fun m h=>absurd h (Nat.not_lt_zero _)⟩
 | a::l,h=>by
  obtain⟨h1,h2⟩:=List.pairwise_cons.1 h;cases hc:ADP a k
  ·refine⟨0,PM _,fun m hm=>⟨fun hb=>?_,fun h=>absurd h (Nat.not_lt_zero _)⟩⟩;cases m with
   | zero=>rw[show(a::l).getD 0 []=a from rfl,hc]at hb;cases hb
   | succ m=>
    have hm:m < l.length:=by simpa using hm
    have e:(a::l).getD (m+1) []=l[m]:=by rw[F5,ew,FL hm];rfl
    rw[e]at hb;have:=AAU (h1 _ (vP hm)) hb;rw[hc]at this;cases this
  ·obtain⟨r,hr,hs⟩:=ACo (k:=k) h2;refine⟨r+1,by simpa using hr,fun m hm=>?_⟩;cases m with
   | zero=>exact⟨fun _=>qO _,fun _=>hc⟩
   | succ m=>
    have hm:m < l.length:=by simpa using hm
    have:=hs m hm;exact⟨fun hb=>Nat.succ_lt_succ (this.1 hb),fun h=>this.2 (Nat.lt_of_succ_lt_succ h)⟩
theorem ABq {k:List UInt8} {l:List (List UInt8)} (h:Srt l):rk l k<=l.length/\∀m,m < l.length->(ADP (l.getD m []) k=true ↔ m < rk l k):=by
 obtain⟨r,hr,hs⟩:=ACo (k:=k) h;have e:rk l k=r:=ZP _ r l.length 0 l.length (by omega) (PM _) hr fun m _ hm=>hs m hm
 rw[e];exact⟨hr,hs⟩
theorem ABe {l:List (List UInt8)} {r:Nat} {a:List UInt8} (h:a∈l.take r):∃m,m < r/\m < l.length/\l.getD m []=a:=by
 obtain⟨m,hm,e⟩:=List.mem_take_iff_getElem.1 h;exact⟨m,by omega,by omega,by rw[F5,FL (by omega)];exact e⟩
theorem ABY {l:List (List UInt8)} {r:Nat} {a:List UInt8} (h:a∈l.drop r):∃m,r<=m/\m < l.length/\l.getD m []=a:=by
 obtain⟨m,hm,e⟩:=List.mem_drop_iff_getElem.1 h;exact⟨r+m,by omega,by omega,by rw[F5,FL (by omega)];exact e⟩
theorem ABr {k:List UInt8} {l:List (List UInt8)} (h:Srt l) (hn:rk l k < l.length->l.getD (rk l k) []≠k):Srt (l.take (rk l k)++k::l.drop (rk l k))/\rk (l.take (rk l k)++k::l.drop (rk l k)) k=rk l k:=by
 obtain⟨hr,hs⟩:=ABq (k:=k) h;generalize hrk:rk l k=r at hr hs hn;have hlow:∀a∈l.take r,ADP a k=true:=fun a ha=>by
  obtain⟨m,h1,h2,rfl⟩:=ABe ha;exact(hs m h2).2 h1
 have hhigh:∀a∈l.drop r,ADP k a=true:=fun a ha=>by
  obtain⟨m,h1,h2,rfl⟩:=ABY ha;refine ACS ?_ fun e=>?_
  ·cases hb:ADP (l.getD m []) k
   ·rfl
   ·have:=(hs m h2).1 hb;omega
  ·by_cases hm:m=r
   ·subst hm;exact hn h2 e
   ·have hrl:r < l.length:=by omega
    have h3:ADP (l.getD r []) (l.getD m [])=true:=by
     rw[F5,F5,FL hrl,FL h2];exact List.pairwise_iff_getElem.1 h r m hrl h2 (by omega)
    rw[e]at h3;have:=(hs r hrl).1 h3;omega
 have hS:Srt (l.take r++k::l.drop r):=by
  refine List.pairwise_append.2 ⟨lu (List.take_sublist _ _) h,List.pairwise_cons.2 ⟨hhigh,lu (List.drop_sublist _ _) h⟩,fun a ha b hb=>?_⟩;rcases List.mem_cons.1 hb with rfl | hb
  ·exact hlow a ha
  ·exact AAU (hlow a ha) (hhigh b hb)
 refine⟨hS,?_⟩;have hlen:(l.take r).length=r:=by rw[IP];omega
 refine ZP _ r _ 0 _ (by omega) (PM _) (by rw[Fu,ZC,hlen];omega) fun m _ hm=>?_
 rw[Fu,ZC,hlen]at hm;rw[F5]
 by_cases h1:m < r
 ·rw[Y5 (by omega),FL (by omega)];exact⟨fun _=>h1,fun _=>hlow _ (vP _)⟩
 ·rw[WO (by omega),hlen]
  by_cases h2:m=r
  ·subst h2;rw[dD];show ADP k k=true ↔ m < m;rw[ABn];exact⟨fun h=>Bool.noConfusion h,fun h=>absurd h (iD _)⟩
  ·obtain⟨j,hj⟩:∃j,m - r=j+1:=⟨m - r - 1,by omega⟩
   rw[hj,ew,FL (by omega)];refine⟨fun hb=>?_,fun h=>absurd h h1⟩;have h3:=hhigh _ (vP (l:=l.drop r) (n:=j) (by omega));have hb:ADP (l.drop r)[j] k=true:=hb;have:=AAU h3 hb;rw[ABn]at this;cases this
def z8 (x:Cm):List (List UInt8):=x.keys.map fun p=>ByteArray.toList p.1
theorem ABk:ByteArray.toList ((EK.BL EV).1:As)=[]:=by
 show ByteArray.toList { data:=#[] }=[];unfold ByteArray.toList ByteArray.toList.loop;rfl
theorem ACe (x:Cm) (a:As) (m:Nat):N0 (Df 25 x.keys) a m=ADP ((z8 x).getD m []) (ByteArray.toList a):=by
 unfold N0 z8;rw[F5,JV,F5,LW];cases x.keys[m]? with
 | none=>show Op.bytesLess (ByteArray.toList (EK.BL EV).1) _=_;rw[ABk];rfl
 | some p=>rfl
theorem AAM (x:Cm) (a:As):Ey x a=rk (z8 x) (ByteArray.toList a):=by
 have e:N0 (Df 25 x.keys) a=fun m=>ADP ((z8 x).getD m []) (ByteArray.toList a):=funext fun m=>ACe x a m
 have hl:(Df 25 x.keys).length=(z8 x).length:=by rw[DA];unfold z8;rw[cw]
 unfold Ey DC rk;rw[e,hl]
theorem AAO (x:Cm) (a:As):Ie x a=(decide (rk (z8 x) (ByteArray.toList a) < (z8 x).length)&&((z8 x).getD (rk (z8 x) (ByteArray.toList a)) []==ByteArray.toList a)):=by
 have hl:(Df 25 x.keys).length=(z8 x).length:=by rw[DA];unfold z8;rw[cw]
 have hj:=AAM x a;unfold Ey at hj;unfold Ie IL;rw[hj,hl]
 congr 2
 generalize rk (z8 x) (ByteArray.toList a)=m;unfold z8;rw[F5,JV,F5,LW];cases x.keys[m]? with
 | none=>exact ABk
 | some p=>rfl
section
variable {x:Cm} {q:Int} {a:As} {d:Bool} {s:Nat} {o z:Int}
theorem AB2 (h0:El x q a d s o z=0):JO x q a d s o z=⟨Lq x q a d s o z,x.AR.set s (HF (C7 x s) (J7 (C7 x s) o) (q,a,d,(s:Int),o,z))⟩:=by
 unfold JO;rw[show(El x q a d s o z==0)=true from by rw[h0];rfl,Al]
theorem AB1 (hh:Ie x a=true) (h0:El x q a d s o z=0):z8 (JO x q a d s o z)=z8 x:=by
 obtain⟨k,hk,hk2⟩:=jN hh;rw[AB2 h0];unfold z8 Lq;rw[hh,Al,hk2];apply To
 intro i;rw[LW,LW,JP]
 by_cases e:Ey x a=i
 ·subst e;rw[HI rfl,HI (List.getElem?_eq_some_iff.1 hk).1,hk];rfl
 ·rw[E7 e]
theorem ABu (hh:Ie x a=false) (h0:El x q a d s o z=0):z8 (JO x q a d s o z)=(z8 x).take (rk (z8 x) (ByteArray.toList a))++ByteArray.toList a::(z8 x).drop (rk (z8 x) (ByteArray.toList a)):=by
 rw[AB2 h0,<-AAM];unfold z8 Lq;rw[hh,AN,aG,X5,List.map_take,List.map_drop]
theorem ABx (hh:Ie x a=false):rk (z8 x) (ByteArray.toList a) < (z8 x).length->(z8 x).getD (rk (z8 x) (ByteArray.toList a)) []≠ByteArray.toList a:=fun hlt e=>by
 rw[AAO,Fp hlt,e,ny]at hh;cases hh
theorem ACq (hS:Srt (z8 x)):Srt (z8 (JO x q a d s o z)):=by
 by_cases h0:El x q a d s o z=0
 ·cases hh:Ie x a
  ·rw[ABu hh h0];exact(ABr hS (ABx hh)).1
  ·rw[AB1 hh h0];exact hS
 ·have e:JO x q a d s o z=x:=by
   unfold JO;rw[fH.2 h0];rfl
  rw[e];exact hS
theorem AC3 (hS:Srt (z8 x)) (h0:El x q a d s o z=0):Mz (JO x q a d s o z) a=HF (Mz x a) (PH (Mz x a).length (E5 (Mz x a) q s)) (q,a,d,(s:Int),o,z):=by
 cases hh:Ie x a
 ·have hL:Mz x a=[]:=by unfold Mz;rw[hh];rfl
  obtain⟨r1,r2⟩:=ABq (k:=ByteArray.toList a) hS;obtain⟨i1,i2⟩:=ABr hS (ABx hh);have hK:=ABu (q:=q) (d:=d) (s:=s) (o:=o) (z:=z) hh h0;have hJ:Ey (JO x q a d s o z) a=Ey x a:=by rw[AAM,AAM,hK,i2]
  have hlen:((z8 x).take (rk (z8 x) (ByteArray.toList a))).length=rk (z8 x) (ByteArray.toList a):=by rw[IP];omega
  have hH:Ie (JO x q a d s o z) a=true:=by
   rw[AAO,hK,i2];have g:((z8 x).take (rk (z8 x) (ByteArray.toList a))++ByteArray.toList a::(z8 x).drop (rk (z8 x) (ByteArray.toList a))).getD (rk (z8 x) (ByteArray.toList a)) []=ByteArray.toList a:=by
    rw[F5,WO (by omega),hlen,dD];rfl
   rw[g,ny,Fp (by rw[Fu,ZC,hlen];omega)];rfl
  have hj:Ey x a<=x.keys.length:=by
   rw[AAM];have:(z8 x).length=x.keys.length:=by unfold z8;rw[cw]
   omega
  have hk:(JO x q a d s o z).keys=x.keys.take (Ey x a)++((a,[(q,a,d,(s:Int),o,z)])::x.keys.drop (Ey x a)):=by
   rw[AB2 h0];show Lq x q a d s o z=_;unfold Lq;rw[hh];rfl
  rw[hL];unfold Mz;rw[hH,Al,hJ,hk,F5,WO (by rw[IP];omega),IP,bV hj,dD];unfold HF;rw[pW,List.drop_nil];rfl
 ·have hK:=AB1 (q:=q) (d:=d) (s:=s) (o:=o) (z:=z) hh h0;have hJ:Ey (JO x q a d s o z) a=Ey x a:=by rw[AAM,AAM,hK]
  have hH:Ie (JO x q a d s o z) a=true:=by rw[AAO,hK,<-AAO];exact hh
  obtain⟨k,hk,hk2⟩:=jN hh;have hk:(JO x q a d s o z).keys=x.keys.set (Ey x a) ((x.keys.getD (Ey x a) (a,[])).1,HF (Mz x a) (PH (Mz x a).length (E5 (Mz x a) q s)) (q,a,d,(s:Int),o,z)):=by
   rw[AB2 h0];show Lq x q a d s o z=_;unfold Lq;rw[hh];rfl
  have hjl:Ey x a < x.keys.length:=by
   obtain⟨k,hk,_⟩:=jN hh;exact(List.getElem?_eq_some_iff.1 hk).1
  have hsplit:Mz (JO x q a d s o z) a=((JO x q a d s o z).keys.getD (Ey x a) (a,[])).2:=by
   show(bif Ie (JO x q a d s o z) a then((JO x q a d s o z).keys.getD (Ey (JO x q a d s o z) a) (a,[])).2 else [])=_;rw[hH,Al,hJ]
  rw[hsplit,hk,Dp hjl]
end
theorem AAe {q:Int} {a:As} {d:Bool} {s z:Int}:∀(l:Aw) (hv:Bool),Ke q a d s z l hv=bif l.any (Qk q a d z)then none else some (hv||l.any (PB q s))
 | [],hv=>by show some hv=some (hv||false);rw[V1]
 | e::r,hv=>by
  unfold Ke;rw[AAe r,o8,o8,Bool.or_assoc];cases Qk q a d z e<;>rfl
structure je (d:Ab) (rs:Nat->List C2):Prop where
 sl:d.AR=5
 dn:d.down=false
 len:d.BB.length=7
 pre:∀s:Nat,s < 5->∃n,n<=(B3 (rs s)).length/\(CV d (s:Nat)).b=(B3 (rs s)).take n
 sz:∀s:Nat,s < 5->(B3 (rs s)).length<=600
 ok:∀s:Nat,s < 5->∀r∈rs s,r.ok
 nd:∀s:Nat,s < 5->((rs s).map C2.q).Nodup
 DG:∀s s':Nat,s < 5->s' < 5->s≠s'->∀r∈rs s,∀r'∈rs s',r.q≠r'.q
 qk:∀s:Nat,s < 5->(rs s).length<=1000
theorem Fe {L:List AS} {i n:Nat} (h:L.length=n) (hi:i < n):Ba L (i:Nat)=false:=by
 unfold Ba;rw[GP (by omega),GP (by omega)];rfl
theorem Nt (d:Ab) (i:Int):Ed d i 0 (A8 d i)=(CV d i).b:=by
 unfold Ed Us A8;rw[HR];show List.take _ (List.drop 0 _)=_;rw[O9,cl]
theorem Rv {d:Ab} {i:Nat} (hd:d.down=false) (hb:Ba d.BB (i:Nat)=false):Kj d (i:Nat) 0 (A8 d (i:Nat))=true:=by
 unfold Kj;rw[hd,hb];unfold Ij A8;rw[GP (by omega),GP (by omega),GP (by omega),GP (by omega)];rfl
section
variable {d:Ab} {rs:Nat->List C2}
theorem jL (d:Ab) (i:Int):(A8 d i==0)=decide ((CV d i).b.length=0):=by
 unfold A8;cases h:decide ((CV d i).b.length=0)
 ·have:=of_decide_eq_false h;exact fH.2 (by omega)
 ·have:=fX h;rw[this];rfl
theorem lh.imp {x:Cm} {u u':Int->Prop} {c:Nat} (h:lh x u c) (hu:∀t,u t->u' t):lh x u' c:=⟨fun p hp e he=>hu _ (h.key p hp e he),h.kl,h.ll⟩
end
structure zV (tb:Ad) (T:Nat->Nat):Prop where
 at_:∀i,i < 256->tb.getD (0+i) (EK.BL kW)=(T i:Nat)
 lt:∀i,i < 256->T i < 4294967296
 inj:∀i j,i < 256->j < 256->T i / 16777216=T j / 16777216->i=j
end Go.AD
namespace Go.AD
open Go.Proofs
end Go.AD
namespace Go.AD
open Go.Proofs
def vd (l:Ad):Prop:=∀x∈l,∃n:Nat,x=(n:Int)/\n < 256
theorem vd.sub {l l0:Ad} (h:vd l0) (hs:∀x∈l,x∈l0):vd l:=fun x hx=>h x (hs x hx)
end Go.AD
namespace Go.AD
open Go.Proofs
end Go.AD
namespace Go.AD
open Go.Proofs
def QI (p:B2):Nat:=bif p.2.2.2.1 then 2 else 1
theorem Ob (p:B2):M1 p=(QI p:Nat):=by unfold M1 QI;cases p.2.2.2.1<;>rfl
theorem bO (m:Int):I1 (Fq m)=0/\(Fq m).size<=5/\1<=(Fq m).size:=by
 unfold Fq;split
 ·exact⟨by kernel_rfl,by decide,by decide⟩
 ·split
  ·exact⟨by kernel_rfl,by decide,by decide⟩
  ·split
   ·exact⟨by kernel_rfl,by decide,by decide⟩
   ·exact⟨by kernel_rfl,by decide,by decide⟩
theorem S7 {p:B2} (h:Ld p):(LO p).size<=39:=by
 unfold LO;cases p.2.2.2.1
 ·rw[AN];obtain⟨r0,r1⟩:=MJ (m:=40) h.c0 (by decide);show(ZG p.2.2.1).data.size<=39;unfold ZG Fy;simp only[Xv,cw,IP,MQ,BG];omega
 ·exact PM _
def LQ (i:Nat) (p:B2):C2:=⟨QI p,i+1,Fq (Int.tmod p.2.1 4),LO p⟩
theorem mg {i:Nat} {p:B2} (h:Ld p) (hi:i < 1000):(LQ i p).ok:=by
 show DR (QI p:Nat) ((i+1:Nat):Int) (Fq (Int.tmod p.2.1 4)) (LO p)=true;obtain⟨k1,k2,k3⟩:=bO (Int.tmod p.2.1 4);have hv:=S7 h;have e1:(((QI p:Nat):Int)==1||(((QI p:Nat):Int)==2&&Jf (LO p)))=true:=by
  unfold QI LO;cases p.2.2.2.1
  ·rfl
  ·unfold Jf;show(false||(true&&((ByteArray.toList { data:=#[] })==(ByteArray.toList { data:=#[] }))))=true;rw[ny];rfl
 have e2:J6 (LO p) 512=0:=by
  unfold J6;rw[GP (by decide),GP (by decide),GP (by show ¬((LO p).size:Int) > 512;omega)];rfl
 unfold DR;rw[e1,k1,e2,GP (by omega),GP (by omega)];rfl
theorem cK {i:Nat} {p:B2} (h:Ld p):(LQ i p).size<=60:=by
 obtain⟨k1,k2,k3⟩:=bO (Int.tmod p.2.1 4);have hv:=S7 h;show 16+(Fq (Int.tmod p.2.1 4)).size+(LO p).size<=60;omega
structure FI (st:PF) (i:Nat) (rs:Nat->List C2) (us:Nat->Nat):Prop where
 sl:st.d.AR=5
 dn:st.d.down=false
 pl:st.d.BJ=none
 len:st.d.BB.length=7
 o0:0<=st.d.ops
 o1:st.d.ops<=2 * i
 im:∀s:Nat,s < 5->CV st.d (s:Nat)=⟨600,((B3 ((rs s).take (us s))).length:Nat),B3 (rs s)⟩
 wA:∀s:Nat,5<=s->s < 7->CV st.d (s:Nat)=⟨64,0,[]⟩
 L:∀s:Nat,s < 5->st.L s=D4 (s:Nat) 0 (rs s)
 u:∀s:Nat,s < 5->st.u s=(us s:Nat)/\us s<=(rs s).length
 sz:∀s:Nat,s < 5->(B3 (rs s)).length<=600
 ok:∀s:Nat,s < 5->∀r∈rs s,r.ok
 nd:∀s:Nat,s < 5->((rs s).map C2.q).Nodup
 DG:∀s s':Nat,s < 5->s' < 5->s≠s'->∀r∈rs s,∀r'∈rs s',r.q≠r'.q
 q:∀s:Nat,s < 5->∀r∈rs s,r.q<=i
 qk:∀s:Nat,s < 5->(rs s).length<=i
theorem LM {d:Ab} {g:AS->AS} {s:Nat} {P:Option BP} {S O:Int} {D:Bool} (hs:s < d.BB.length) (t:Nat):CV ⟨D6 g (s:Nat) d.BB,P,S,O,D⟩ (t:Nat)=if s=t then g (CV d (s:Nat))else CV d (t:Nat):=by
 unfold CV D6;simp only[HR];rw[F5,JP,HI hs];split
 ·rfl
 ·rw[<-F5]
theorem RR (s:Int) (r:C2):∀(rs:List C2) (off:Nat),D4 s off (rs++[r])=D4 s off rs++[Ou s (off+(B3 rs).length) r]
 | [],off=>rfl
 | r0::rs,off=>by
  have hB:B3 (r0::rs)=r0.bytes++B3 rs:=rfl;show Ou s off r0::D4 s (off+r0.size) (rs++[r])=Ou s off r0::(D4 s (off+r0.size) rs++[_]);rw[RR s r rs,hB,Fu,r0.len,XY]
theorem H6 (s:Int):∀(rs:List C2) (off:Nat),(D4 s off rs).length=rs.length
 | [],_=>rfl
 | r::rs,off=>by show(D4 s (off+r.size) rs).length+1=rs.length+1;rw[H6 s rs]
theorem OH (rs:List C2) (r:C2):B3 (rs++[r])=B3 rs++r.bytes:=by
 unfold B3;rw[oG,gf,List.flatMap_nil,eA]
theorem Mw {α:Type} (L:Nat->α) (s:Nat) (x:α):GR L s x s=x:=by unfold GR;rw[Va];rfl
theorem PX {α:Type} (L:Nat->α) {s t:Nat} (x:α) (h:t≠s):GR L s x t=L t:=by
 unfold GR;cases hb:Nat.beq t s
 ·rfl
 ·exact absurd (AG hb) h
theorem FI.next {st:PF} {i:Nat} {rs:Nat->List C2} {us:Nat->Nat} (h:FI st i rs us):FI st (i+1) rs us:=
 ⟨h.sl,h.dn,h.pl,h.len,h.o0,by have:=h.o1;omega,h.im,h.wA,h.L,h.u,h.sz,h.ok,h.nd,h.DG,fun s hs r hr=>by have:=h.q s hs r hr;omega,fun s hs=>by have:=h.qk s hs;omega⟩
theorem FI.add {st st':PF} {i s:Nat} {rs:Nat->List C2} {us us':Nat->Nat} (h:FI st i rs us) {r:C2} (hs:s < 5) (hr:r.ok) (hq:r.q=i+1) (hz:(B3 (rs s)).length+r.size<=600)
 (sl:st'.d.AR=5) (dn:st'.d.down=false) (pl:st'.d.BJ=none) (len:st'.d.BB.length=7) (o0:0<=st'.d.ops) (o1:st'.d.ops<=2 * (i+1:Nat))
 (hL:st'.L=GR st.L s (st.L s++[Ou (s:Nat) (B3 (rs s)).length r]))
 (him:CV st'.d (s:Nat)=⟨600,((B3 ((rs s++[r]).take (us' s))).length:Nat),B3 (rs s++[r])⟩) (hne:∀t:Nat,t≠s->CV st'.d (t:Nat)=CV st.d (t:Nat))
 (hu:st'.u s=(us' s:Nat)/\us' s<=(rs s++[r]).length) (hu2:∀t:Nat,t≠s->st'.u t=st.u t/\us' t=us t):FI st' (i+1) (GR rs s (rs s++[r])) us':=by
 have hA:∀t:Nat,t≠s->GR rs s (rs s++[r]) t=rs t:=fun t ht=>PX _ _ ht
 have hB:=Mw rs s (rs s++[r]);refine⟨sl,dn,pl,len,o0,o1,fun t ht=>?_,fun t h1 h2=>?_,fun t ht=>?_,fun t ht=>?_,fun t ht=>?_,fun t ht=>?_,fun t ht=>?_,fun t t' ht ht' hn=>?_,fun t ht=>?_,fun t ht=>?_⟩
 ·by_cases e:t=s
  ·subst e;rw[hB];exact him
  ·rw[hA t e,hne t e,h.im t ht,(hu2 t e).2]
 ·rw[hne t (by omega)];exact h.wA t h1 h2
 ·rw[hL]
  by_cases e:t=s
  ·subst e;rw[hB,Mw,RR,h.L t ht,Hq]
  ·rw[hA t e,PX _ _ e];exact h.L t ht
 ·by_cases e:t=s
  ·subst e;rw[hB];exact hu
  ·rw[hA t e,(hu2 t e).1,(hu2 t e).2];exact h.u t ht
 ·by_cases e:t=s
  ·subst e;rw[hB,OH,Fu,r.len];exact hz
  ·rw[hA t e];exact h.sz t ht
 ·by_cases e:t=s
  ·subst e;rw[hB];intro x hx;rcases List.mem_append.1 hx with hx | hx
   ·exact h.ok t ht x hx
   ·rw[I6]at hx;rw[hx];exact hr
  ·rw[hA t e];exact h.ok t ht
 ·by_cases e:t=s
  ·subst e;rw[hB,aG];refine List.nodup_append.2 ⟨h.nd t ht,List.nodup_cons.2 ⟨Yk,HM⟩,fun a ha b hb=>?_⟩;obtain⟨x,hx,rfl⟩:=List.mem_map.1 ha;have hb:b=r.q:=by simpa using hb
   have:=h.q t ht x hx;omega
  ·rw[hA t e];exact h.nd t ht
 ·have hm:∀t,t < 5->∀x∈GR rs s (rs s++[r]) t,x∈rs t∨(t=s/\x.q=i+1):=fun t ht x hx=>by
   by_cases e:t=s
   ·subst e;rw[hB]at hx;rcases List.mem_append.1 hx with hx | hx
    ·exact .inl hx
    ·rw[I6]at hx;rw[hx];exact .inr ⟨rfl,hq⟩
   ·rw[hA t e]at hx;exact .inl hx
  intro x hx y hy;rcases hm t ht x hx with h1 | ⟨h1,h1'⟩
  ·rcases hm t' ht' y hy with h2 | ⟨h2,h2'⟩
   ·exact h.DG t t' ht ht' hn x h1 y h2
   ·have:=h.q t ht x h1;omega
  ·rcases hm t' ht' y hy with h2 | ⟨h2,h2'⟩
   ·have:=h.q t' ht' y h2;omega
   ·omega
 ·by_cases e:t=s
  ·subst e;rw[hB];intro x hx;rcases List.mem_append.1 hx with hx | hx
   ·have:=h.q t ht x hx;omega
   ·rw[I6]at hx;rw[hx];omega
  ·rw[hA t e];intro x hx;have:=h.q t ht x hx;omega
 ·by_cases e:t=s
  ·subst e;rw[hB,Fu];have:=h.qk t ht;show _+1<=_;omega
  ·rw[hA t e];have:=h.qk t ht;omega
theorem Te {d:Ab} {s:Nat} {l:Ad} (hd:d.down=false) (hp:d.BJ=none) (hl:d.BB.length=7) (hs:s < 7) (hr:(l.length:Int)<=Gw d (s:Nat)):DX d (s:Nat) l=(0,⟨D6 (fun m=>FP m l) (s:Nat) d.BB,none,d.AR,J3 d.ops,false⟩):=by
 rw[NX hd (Fe hl hs) (by omega)];unfold MZ;rw[hp,hd]
theorem bX {d:Ab} {s:Nat} {l:Ad} (hd:d.down=false) (hl:d.BB.length=7) (hs:s < 7) (hr:¬(l.length:Int)<=Gw d (s:Nat)):DX d (s:Nat) l=(4,d):=MD hd (Fe hl hs) (by omega)
theorem WN {d:Ab} {s:Nat} (hd:d.down=false) (hp:d.BJ=none) (hl:d.BB.length=7) (hs:s < 7):De d (s:Nat)=(0,⟨D6 Cn (s:Nat) d.BB,none,d.AR,J3 d.ops,false⟩):=by
 unfold De;rw[NK hd (Fe hl hs)];unfold MZ;rw[hp,hd]
theorem P1 {o:Int} (h0:0<=o) (h1:o<=1000000):J3 o=o+1:=wrap64 (by omega) (by omega)
theorem nS {st:PF} {i:Nat} {rs:Nat->List C2} {us:Nat->Nat} (h:FI st i rs us) (hi:i < 1000) {p:B2} (hp:Ld p):VB st i p/\∃rs' us',FI (QP st i p) (i+1) rs' us':=by
 have hs:=bD hp;have hsz:=cK (i:=i) hp;have hrok:=mg hp hi;have hb:(E3 (M1 p) ((i+1:Nat):Int) (Fq (Int.tmod p.2.1 4)) (LO p))=(LQ i p).bytes:=by rw[Ob];rfl
 have hlen:(LQ i p).bytes.length=(LQ i p).size:=(LQ i p).len;have him:=h.im (DZ p) hs;have hdl:A8 st.d ((DZ p:Nat):Int)=((B3 (rs (DZ p))).length:Nat):=by unfold A8;rw[him]
 have hroom:Gw st.d ((DZ p:Nat):Int)=600 - ((B3 (rs (DZ p))).length:Nat):=by
  have e:Gw st.d ((DZ p:Nat):Int)=(CV st.d ((DZ p:Nat):Int)).size - (CV st.d ((DZ p:Nat):Int)).b.length:=rfl;rw[e,him]
 have hszs:=h.sz (DZ p) hs;have o0:=h.o0;have o1:=h.o1;have hcnt:=h.qk (DZ p) hs;have hLl:(st.L (DZ p)).length=(rs (DZ p)).length:=by rw[h.L _ hs,H6]
 have hrec:DR (M1 p) ((i+1:Nat):Int) (Fq (Int.tmod p.2.1 4)) (LO p)=true:=by rw[Ob];exact hrok
 have hrent:L6 (M1 p) ((i+1:Nat):Int) (Fq (Int.tmod p.2.1 4)) (LO p) ((DZ p:Nat):Int) (A8 st.d ((DZ p:Nat):Int))=true:=by
  unfold L6;rw[hrec,hdl,GP (by omega),GP (by omega),GP (by omega),GP (by omega)];rfl
 have hbad:=Fe h.len (show DZ p < 7 by omega);have ON:((((i+1:Nat):Int)),Fq (Int.tmod p.2.1 4),M1 p==2,((DZ p:Nat):Int),A8 st.d ((DZ p:Nat):Int),((Bu (Fq (Int.tmod p.2.1 4)) (LO p):Nat):Int))=Ou ((DZ p:Nat):Int) (B3 (rs (DZ p))).length (LQ i p):=by
  rw[hdl,Ob];rfl
 by_cases hr:(((LQ i p).bytes.length:Nat):Int)<=Gw st.d ((DZ p:Nat):Int)
 ·have hz:(B3 (rs (DZ p))).length+(LQ i p).size<=600:=by rw[hroom,hlen]at hr;omega
  have hap:=Te h.dn h.pl h.len (show DZ p < 7 by omega) hr;have hw:=P1 o0 (by omega);have hdl2:(D6 (fun m=>FP m (LQ i p).bytes) ((DZ p:Nat):Int) st.d.BB).length=7:=by rw[Gl];exact h.len
  have hsy:=WN (d:=⟨D6 (fun m=>FP m (LQ i p).bytes) ((DZ p:Nat):Int) st.d.BB,none,st.d.AR,J3 st.d.ops,false⟩) rfl rfl hdl2 (show DZ p < 7 by omega);refine⟨⟨hp,hrec,h.dn,hbad,hrent,fun _ _=>by rw[hb,hap,hsy],by omega⟩,?_⟩;unfold QP EF;rw[hb,hap];show ∃rs' us',FI (bif p.2.2.2.2 then _ else _) (i+1) rs' us'
  have hget:∀t:Nat,CV ⟨D6 (fun m=>FP m (LQ i p).bytes) ((DZ p:Nat):Int) st.d.BB,none,st.d.AR,J3 st.d.ops,false⟩ (t:Nat)=if DZ p=t then FP (CV st.d ((DZ p:Nat):Int)) (LQ i p).bytes else CV st.d (t:Nat):=fun t=>LM (by rw[h.len];omega) t
  cases hf:p.2.2.2.2
  ·rw[AN];refine⟨_,us,h.add hs hrok rfl hz h.sl rfl rfl hdl2 (by show 0<=J3 _;omega) (by show J3 _<=_;omega) (by rw[<-ON]) ?_ (fun t ht=>?_) ?_ fun t _=>⟨rfl,rfl⟩⟩
   ·rw[hget,HI rfl,him,OH];have hu:=(h.u _ hs).2;rw[A6 hu];rfl
   ·rw[hget,E7 (Zn ht)]
   ·obtain⟨u1,u2⟩:=h.u _ hs;exact⟨u1,by rw[Fu];omega⟩
  ·rw[Al];have hs2:DZ p < (D6 (fun m=>FP m (LQ i p).bytes) ((DZ p:Nat):Int) st.d.BB).length:=by rw[hdl2];omega
   have hw2:J3 (J3 st.d.ops)=st.d.ops+2:=by rw[hw,P1 (by omega) (by omega)];omega
   refine⟨_,GR us (DZ p) ((rs (DZ p)).length+1),h.add hs hrok rfl hz ?_ ?_ ?_ ?_ ?_ ?_ (by rw[<-ON]) ?_ (fun t ht=>?_) ?_ fun t ht=>⟨PX _ _ ht,PX _ _ ht⟩⟩
   ·show(De _ _).2.AR=_;rw[hsy];exact h.sl
   ·show(De _ _).2.down=_;rw[hsy]
   ·show(De _ _).2.BJ=_;rw[hsy]
   ·show(De _ _).2.BB.length=_;rw[hsy];show(D6 _ _ _).length=7;rw[Gl];exact hdl2
   ·show 0<=(De _ _).2.ops;rw[hsy];show 0<=J3 (J3 _);omega
   ·show(De _ _).2.ops<=_;rw[hsy];show J3 (J3 _)<=_;omega
   ·show CV (De _ _).2 _=_;rw[hsy,Mw];show CV ⟨D6 Cn _ _,_,_,_,_⟩ _=_;have ht:(rs (DZ p)++[LQ i p]).take ((rs (DZ p)).length+1)=rs (DZ p)++[LQ i p]:=Pb (by rw[Fu];exact CC _);rw[LM hs2,HI rfl,hget,HI rfl,him,ht,OH];rfl
   ·show CV (De _ _).2 _=_;rw[hsy];show CV ⟨D6 Cn _ _,_,_,_,_⟩ _=_;rw[LM hs2,E7 (Zn ht),hget,E7 (Zn ht)]
   ·rw[Mw];refine⟨?_,by rw[Fu];exact CC _⟩;show GR st.u (DZ p) _ (DZ p)=_;rw[Mw,Fu,hLl];rfl
 ·have hap:=bX h.dn h.len (show DZ p < 7 by omega) hr;refine⟨⟨hp,hrec,h.dn,hbad,hrent,fun e=>(by rw[hb,hap]at e;cases e),by omega⟩,rs,us,?_⟩;unfold QP EF;rw[hb,hap];exact h.next
theorem ji {l:List B2} (hp:∀i,Ld (PJ l i)):∀(n i:Nat) (st:PF) (rs:Nat->List C2) (us:Nat->Nat),i+n<=1000->FI st i rs us->WI l n i st/\∃rs' us',FI (Eo l n i st) (i+n) rs' us'
 | 0,i,st,rs,us,_,h=>⟨trivial,rs,us,h⟩
 | n+1,i,st,rs,us,hn,h=>by
  obtain⟨h1,rs1,us1,h2⟩:=nS h (by omega) (hp i);obtain⟨h3,rs2,us2,h4⟩:=ji hp n (i+1) _ rs1 us1 (by omega) h2;refine⟨⟨h1,h3⟩,rs2,us2,?_⟩;rw[show i+(n+1)=i+1+n from by omega];exact h4
theorem yG:FI Oo 0 (fun _=>[]) fun _=>0:=by
 refine⟨rfl,rfl,rfl,rfl,ld _,ld _,fun s hs=>?_,fun s h1 h2=>?_,fun s _=>rfl,fun s _=>⟨rfl,CC _⟩,fun s _=>PM _,fun s _ r hr=>(by cases hr),fun s _=>HM,fun s s' _ _ _ r hr=>(by cases hr),fun s _ r hr=>(by cases hr),fun s _=>PM _⟩
 ·match s,hs with
  | 0,_=>rfl
  | 1,_=>rfl
  | 2,_=>rfl
  | 3,_=>rfl
  | 4,_=>rfl
  | s+5,h=>exact absurd h (by omega)
 ·match s,h1,h2 with
  | 5,_,_=>rfl
  | 6,_,_=>rfl
  | 0,h,_=>exact absurd h (by omega)
  | 1,h,_=>exact absurd h (by omega)
  | 2,h,_=>exact absurd h (by omega)
  | 3,h,_=>exact absurd h (by omega)
  | 4,h,_=>exact absurd h (by omega)
  | s+7,_,h=>exact absurd h (by omega)
structure AAN (d:Ab) (fs:Nat->List C2):Prop where
 sl:d.AR=5
 dn:d.down=false
 len:d.BB.length=7
 b:∀s:Nat,s < 5->(CV d (s:Nat)).b.length<=700
 es:∀s:Nat,s < 5->Gp d (s:Nat)=D4 (s:Nat) 0 (fs s)
 sz:∀s:Nat,s < 5->(B3 (fs s)).length<=600
 ok:∀s:Nat,s < 5->∀r∈fs s,r.ok
 nd:∀s:Nat,s < 5->((fs s).map C2.q).Nodup
 DG:∀s s':Nat,s < 5->s' < 5->s≠s'->∀r∈fs s,∀r'∈fs s',r.q≠r'.q
 qk:∀s:Nat,s < 5->(fs s).length<=1000
section
variable {d:Ab} {fs:Nat->List C2}
end
section
variable {x:Cm} {used:Int->Prop} {c:Nat} {q:Int} {a:As} {d:Bool} {s:Nat} {o z:Int}
theorem ABl (hx:lh x used c) (hS:Srt (z8 x)) (hq:¬used q) (h0:El x q a d s o z=0):(∀y∈Mz (JO x q a d s o z) a,y.1≠q∨y=(q,a,d,(s:Int),o,z))/\(q,a,d,(s:Int),o,z)∈Mz (JO x q a d s o z) a:=by
 rw[AC3 hS h0];obtain⟨u1,_⟩:=lH hx a;refine⟨fun y hy=>?_,?_⟩
 ·rcases jj hy with hy | hy
  ·exact .inl fun e=>hq (by rw[<-e];exact u1 y hy)
  ·exact .inr hy
 ·unfold HF;exact mT _ (SD ..)
theorem AB6 (hx:lh x used c) (hS:Srt (z8 x)) (hq:¬used q) (h0:El x q a d s o z=0) (o2:Int):El (JO x q a d s o z) q a d s o2 z=6:=by
 obtain⟨h1,h2⟩:=ABl hx hS hq h0;have b1:(Mz (JO x q a d s o z) a).any (Qk q a d z)=false:=by
  rw[List.any_eq_false];intro y hy;rcases h1 y hy with h | rfl
  ·have:(y.1==q)=false:=fH.2 h;unfold Qk;rw[this];exact Bool.false_ne_true
  ·unfold Qk;simp
 have b2:(Mz (JO x q a d s o z) a).any (PB q s)=true:=by
  rw[ZK];exact⟨_,h2,by unfold PB;simp⟩
 unfold El ao;rw[AAe,b1,b2];rfl
theorem ACA (hx:lh x used c) (hS:Srt (z8 x)) (hq:¬used q) (h0:El x q a d s o z=0) {s2:Nat} {o2 z2:Int} (hz:z≠z2):El (JO x q a d s o z) q a d s2 o2 z2=2:=by
 obtain⟨_,h2⟩:=ABl hx hS hq h0;have b1:(Mz (JO x q a d s o z) a).any (Qk q a d z2)=true:=by
  rw[ZK];refine⟨_,h2,?_⟩;unfold Qk;have:(z==z2)=false:=fH.2 hz;show(q==q&& !(q==q&&(ByteArray.toList a==ByteArray.toList a&&(d==d&&(z==z2)))))=true;rw[this];simp
 unfold El ao;rw[AAe,b1];rfl
end
theorem ACO:∀(es:Aw) (x:Cm),Srt (z8 x)->Srt (z8 (Nh x es))
 | [],_,h=>h
 | e::es,x,h=>ACO es (fC x e) (ACq h)
theorem ABR:∀(es:Aw) (x:Cm),Zq x es->zG x es=0/\ABW x es
 | [],_,_=>⟨rfl,trivial⟩
 | e::es,x,h=>by
  obtain⟨h1,h2⟩:=h;obtain⟨k1,k2⟩:=ABR es (fC x e) h2;have h0:zx x e=0:=h1.2;refine⟨?_,h1.1,fun _=>k2⟩;show(bif zx x e==0 then zG (fC x e) es else zx x e)=0;rw[h0];exact k1
section
variable {d:Ab}
theorem ACV:∀(k1 k2 i:Nat) (x:Cm),Zz d k1 i x->zn d (k1+k2) i x=zn d k2 (i+k1) (Mh d k1 i x)/\(AAD d k2 (i+k1) (Mh d k1 i x)->AAD d (k1+k2) i x)
 | 0,k2,i,x,_=>by rw[Hq];exact⟨rfl,id⟩
 | k1+1,k2,i,x,h=>by
  obtain⟨h1,h2,h3⟩:=h;obtain⟨a1,a2⟩:=ABR _ _ h2;obtain⟨b1,b2⟩:=ACV k1 k2 (i+1) _ h3;rw[show k1+1+k2=(k1+k2)+1 from by omega,show i+(k1+1)=i+1+k1 from by omega];refine⟨?_,fun h=>⟨h1,a2,fun _=>b2 h⟩⟩;show(bif zG x (Gp d (i:Nat))==0 then zn d (k1+k2) (i+1) (Nh x (Gp d (i:Nat)))else _)=_;rw[a1];exact b1
structure ACl (d:Ab) (fs:Nat->List C2) (N:Nat):Prop where
 sl:d.AR=5
 dn:d.down=false
 len:d.BB.length=7
 b:∀s:Nat,s < 5->(CV d (s:Nat)).b.length<=700
 es:∀s:Nat,s < N->Gp d (s:Nat)=D4 (s:Nat) 0 (fs s)
 sz:∀s:Nat,s < N->(B3 (fs s)).length<=600
 ok:∀s:Nat,s < N->∀r∈fs s,r.ok
 nd:∀s:Nat,s < N->((fs s).map C2.q).Nodup
 DG:∀s s':Nat,s < N->s' < N->s≠s'->∀r∈fs s,∀r'∈fs s',r.q≠r'.q
 qk:∀s:Nat,s < N->(fs s).length<=1000
theorem AAt {fs:Nat->List C2} {N:Nat} (h:ACl d fs N) {s:Nat} (hs:s < 5):uC d (s:Nat):=by
 have hbad:=Fe h.len (show s < 7 by omega);refine⟨h.dn,hbad,fun _=>⟨Rv h.dn hbad,?_⟩⟩;rw[Nt];have:=h.b s hs;exact⟨by omega,by omega,by omega,by omega⟩
theorem ABg {fs:Nat->List C2} {N:Nat} (hN:N<=5) (h:ACl d fs N):∀(k i:Nat) (x:Cm) (c:Nat),k+i=N->lh x (fun t=>∃s,s < i/\∃r∈fs s,t=(r.q:Int)) c->c<=1000 * i->x.AR.length=5->(∀s,i<=s->s < 5->C7 x s=[])->Srt (z8 x)->
 Zz d k i x/\∃c',lh (Mh d k i x) (fun t=>∃s,s < N/\∃r∈fs s,t=(r.q:Int)) c'/\c'<=1000 * N/\(Mh d k i x).AR.length=5/\(∀s,N<=s->s < 5->C7 (Mh d k i x) s=[])/\Srt (z8 (Mh d k i x))
 | 0,i,x,c,hk,hx,hc,hl,he,hS=>by
  have e:i=N:=by omega
  subst e;exact⟨trivial,c,hx,hc,hl,he,hS⟩
 | k+1,i,x,c,hk,hx,hc,hl,he,hS=>by
  have hi:i < N:=by omega
  have hcn:=h.qk i hi;have hemp:=he i (CC _) (by omega);have hsz:=h.sz i hi;obtain⟨a1,a2,a3⟩:=bT (s:=i) (fs i) x _ c 0 hx (by omega) (by omega) (h.ok i hi) (by omega) (h.nd i hi) (fun r hr hu=>by
   obtain⟨s,hs,r',hr',e⟩:=hu;exact h.DG i s hi (by omega) (by omega) r hr r' hr' (by omega)) (by rw[hemp];exact⟨fun e he=>(by cases he)⟩) (by rw[hemp];exact PM _)
  have hse:=h.es i hi;have hl2:(Nh x (Gp d (i:Nat))).AR.length=5:=by rw[hse,a2,Ly];exact hl
  have hne:∀s,s≠i->C7 (Nh x (Gp d (i:Nat))) s=C7 x s:=fun s hs=>by
   unfold C7;rw[hse,a2,F5,F5,JP,E7 (Zn hs)]
  obtain⟨b1,b2⟩:=ABg hN h k (i+1) (Nh x (Gp d (i:Nat))) (c+(fs i).length) (by omega) (by
   rw[hse];refine a3.imp fun t ht=>?_
   rcases ht with⟨s,hs,r,hr,e⟩ | ⟨r,hr,e⟩
   ·exact⟨s,by omega,r,hr,e⟩
   ·exact⟨i,by omega,r,hr,e⟩) (by omega) hl2 (fun s h1 h2=>by rw[hne s (by omega)];exact he s (by omega) h2) (ACO _ _ hS)
  exact⟨⟨AAt h (by omega),by rw[hse];exact a1,b1⟩,b2⟩
theorem ACZ {fs:Nat->List C2} {N:Nat} (hN:N<=5) (h:ACl d fs N):Zz d N 0 (aN 5)/\∃c',lh (Mh d N 0 (aN 5)) (fun t=>∃s,s < N/\∃r∈fs s,t=(r.q:Int)) c'/\c'<=1000 * N/\(Mh d N 0 (aN 5)).AR.length=5/\(∀s,N<=s->s < 5->C7 (Mh d N 0 (aN 5)) s=[])/\Srt (z8 (Mh d N 0 (aN 5))):=by
 have h0:∀s,0<=s->s < 5->C7 (aN 5) s=[]:=fun s _ hs=>by
  unfold C7 aN;rw[F5,pG];split<;>rfl
 exact ABg hN h N 0 (aN 5) 0 rfl ⟨fun p hp=>(by cases hp),CC _,fun p hp=>(by cases hp)⟩ (by omega) (by unfold aN;simp) h0 List.Pairwise.nil
end
theorem Zk (a b:List C2):B3 (a++b)=B3 a++B3 b:=by unfold B3;rw[oG]
structure TeD (d0 d:Ab) (k:Nat) (b:Ad):Prop where
 sl:d.AR=5
 dn:d.down=false
 pl:d.BJ=none
 len:d.BB.length=7
 z:CV d (k:Nat)=⟨600,0,b⟩
 ne:∀t:Nat,t≠k->CV d (t:Nat)=CV d0 (t:Nat)
theorem ABP {d:Ab} {s:Nat} {b:Ad} {fs:List C2} (hb:(CV d (s:Nat)).b=b) (h:GS b 0 b.length (s:Nat) b.length 0=D4 (s:Nat) 0 fs):Gp d (s:Nat)=D4 (s:Nat) 0 fs:=by
 unfold Gp;rw[jL,hb];cases hz:decide (b.length=0)
 ·rw[AN];unfold T8;rw[Nt,hb];exact h
 ·have hz:=fX hz;rw[Al];rw[hz]at h;exact h
theorem AAy {s:Int} {rs:List C2} (hok:∀r∈rs,r.ok):GS (B3 rs) 0 (B3 rs).length s (B3 rs).length 0=D4 s 0 rs:=by
 have:=Ss (s:=s) rs (B3 rs).length 0 hok (PM _) (Nat.sub_le _ _) (by omega) (l:=B3 rs) (fun t ht=>by
  rw[vI,cl,Hq])
 rw[this,aU rs 0 (by omega)]
structure DvB (d:Ab) (bs:Nat->Ad):Prop where
 sl:d.AR=5
 dn:d.down=false
 pl:d.BJ=none
 len:d.BB.length=7
 im:∀s:Nat,s < 5->∃u,CV d (s:Nat)=⟨600,u,bs s⟩
theorem DvB.cv {d:Ab} {bs:Nat->Ad} (h:DvB d bs):ACR d:=⟨h.sl,h.pl,h.dn,h.len⟩
theorem ACQ {st:PF} {i:Nat} {rs:Nat->List C2} {us:Nat->Nat} (h:FI st i rs us):DvB st.d fun s=>B3 (rs s):=⟨h.sl,h.dn,h.pl,h.len,fun s hs=>⟨_,h.im s hs⟩⟩
theorem ABT {d:Ab} {bs:Nat->Ad} (h:DvB d bs) {k:Nat} (hk:k < 5):(Ma d (k:Nat) Jj BP.done).1=0/\DvB (Ma d (k:Nat) Jj BP.done).2 (GR bs k []):=by
 have e:Ma d (k:Nat) Jj BP.done=(0,⟨D6 Jj (k:Nat) d.BB,none,d.AR,J3 d.ops,false⟩):=by
  unfold Ma MZ;rw[h.dn,Fe h.len (show k < 7 by omega),h.pl];rfl
 rw[e];refine⟨rfl,h.sl,rfl,rfl,(Gl _ _ _).trans h.len,fun t ht=>?_⟩;obtain⟨u,hu⟩:=h.im t ht;show ∃u,CV ⟨D6 Jj _ _,_,_,_,_⟩ _=_
 rw[LM (by rw[h.len];omega)]
 by_cases e:k=t
 ·subst e;rw[HI rfl,hu,Mw];exact⟨0,rfl⟩
 ·rw[E7 e,PX _ _ (Zn e)];exact⟨u,hu⟩
theorem ABX {d:Ab} {bs:Nat->Ad} {l:Ad} (h:DvB d bs) {k:Nat} (hk:k < 5) (hl:(bs k).length+l.length<=600):(DX d (k:Nat) l).1=0/\DvB (DX d (k:Nat) l).2 (GR bs k (bs k++l)):=by
 obtain⟨u,hu⟩:=h.im k hk;have e:=Te (l:=l) h.dn h.pl h.len (show k < 7 by omega) (by
  have e:Gw d (k:Nat)=(CV d (k:Nat)).size - (CV d (k:Nat)).b.length:=rfl;rw[e,hu];show(l.length:Int)<=600 - ((bs k).length:Int);omega)
 rw[e];refine⟨rfl,h.sl,rfl,rfl,(Gl (fun m=>FP m l) _ d.BB).trans h.len,fun t ht=>?_⟩;obtain⟨v,hv⟩:=h.im t ht;show ∃u,CV ⟨D6 _ _ _,_,_,_,_⟩ _=_
 rw[LM (by rw[h.len];omega)]
 by_cases e:k=t
 ·subst e;rw[HI rfl,hv,Mw];exact⟨v,rfl⟩
 ·rw[E7 e,PX _ _ (Zn e)];exact⟨v,hv⟩
def zA:C2:=⟨1,100,{ data:=#[113] },{ data:=#[49] }⟩
def AAJ:C2:=⟨1,100,{ data:=#[113] },{ data:=#[49,50] }⟩
theorem ABZ:zA.ok:=by show DR _ _ _ _=true;kernel_rfl
theorem ACF:AAJ.ok:=by show DR _ _ _ _=true;kernel_rfl
theorem AA2:zA.size=18:=by kernel_rfl
theorem ACP:AAJ.size=19:=by kernel_rfl
theorem ABy:(B3 [zA]).length=18:=by show(zA.bytes++[]).length=18;rw[eA,zA.len,AA2]
theorem ACN:(B3 [zA,zA]).length=36:=by show(zA.bytes++(zA.bytes++[])).length=36;rw[eA,Fu,zA.len,AA2]
theorem ABz:(B3 [AAJ]).length=19:=by show(AAJ.bytes++[]).length=19;rw[eA,AAJ.len,ACP]
section
variable {d:Ab} {fs:Nat->List C2}
theorem AA6 {st:PF} {i:Nat} {rs:Nat->List C2} {us:Nat->Nat} (hF:FI st i rs us) (hi:i<=1000) {bs:Nat->Ad} (h:DvB d bs) (hb:∀s,s < 3->bs s=B3 (rs s)) (h3:∀s,3<=s->s < 5->(bs s).length<=600):ACl d rs 3:=by
 refine⟨h.sl,h.dn,h.len,fun s hs=>?_,fun s hs=>?_,fun s hs=>hF.sz s (by omega),fun s hs=>hF.ok s (by omega),fun s hs=>hF.nd s (by omega),fun s s' hs hs'=>hF.DG s s' (by omega) (by omega),fun s hs=>by have:=hF.qk s (by omega);omega⟩
 ·obtain⟨u,hu⟩:=h.im s hs;rw[hu];show(bs s).length<=700
  by_cases h1:s < 3
  ·rw[hb s h1];have:=hF.sz s hs;omega
  ·have:=h3 s (by omega) hs;omega
 ·obtain⟨u,hu⟩:=h.im s (by omega);exact ABP (by rw[hu];exact hb s hs) (AAy (hF.ok s (by omega)))
theorem ABH {bs:Nat->Ad} (h:DvB d bs) {s:Nat} (hs:s < 5) {l:List C2} (hb:bs s=B3 l) (hok:∀r∈l,r.ok):Gp d (s:Nat)=D4 (s:Nat) 0 l:=by
 obtain⟨u,hu⟩:=h.im s hs;exact ABP (by rw[hu];exact hb) (AAy hok)
end
section
variable {st:PF} {i:Nat} {rs:Nat->List C2} {us:Nat->Nat} {d:Ab} {bs:Nat->Ad}
theorem ABQ (hF:FI st i rs us) (hi:i<=99) (h:DvB d bs) (hb:∀s,s < 3->bs s=B3 (rs s)) (h3:∀s,3<=s->s < 5->(bs s).length<=600):
 ∃x3:Cm,ze d=zn d 2 3 x3/\(AAD d 2 3 x3->AAD d 5 0 (aN 5))/\kF x3 (Ou ((3:Nat):Int) 0 zA)/\(∀o2:Int,zx (fC x3 (Ou ((3:Nat):Int) 0 zA)) ((zA.q:Int),zA.a,(zA.k:Int)==2,((3:Nat):Int),o2,(zA.size:Int))=6)/\
  (∀(s2:Nat) (o2 z2:Int),(zA.size:Int)≠z2->zx (fC x3 (Ou ((3:Nat):Int) 0 zA)) ((zA.q:Int),zA.a,(zA.k:Int)==2,(s2:Int),o2,z2)=2)/\
  (∀s,3<=s->s < 5->∀(z2 o2:Int),Mt (zA.q:Int) zA.a ((zA.k:Int)==2) o2 z2->Lr (fC x3 (Ou ((3:Nat):Int) 0 zA)) (zA.q:Int) zA.a ((zA.k:Int)==2) s o2 z2):=by
 have hN:=AA6 hF (by omega) h hb h3;obtain⟨a1,c,hx,hc,hl,he,hS⟩:=ACZ (by decide) hN;obtain⟨p1,p2⟩:=ACV 3 2 0 (aN 5) a1;have hD:ze d=zn d 5 0 (aN 5):=by unfold ze;rw[h.sl];rfl
 have p1:ze d=zn d 2 3 (Mh d 3 0 (aN 5)):=hD.trans p1;have p2:AAD d 2 3 (Mh d 3 0 (aN 5))->AAD d 5 0 (aN 5):=p2;generalize Mh d 3 0 (aN 5)=x3 at hx hl he hS p1 p2;have hq:¬∃s,s < 3/\∃r∈rs s,(zA.q:Int)=(r.q:Int):=by
  rintro⟨s,hs,r,hr,e⟩;have:=hF.q s (by omega) r hr;have e:(100:Int)=(r.q:Int):=e;omega
 have hemp:=he 3 (by decide) (by decide);have hsz:=AA2;obtain⟨k1,k2,k3⟩:=sE (s:=3) (q:=(zA.q:Int)) (a:=zA.a) (d:=(zA.k:Int)==2) (o:=((0:Nat):Int)) (z:=(zA.size:Int)) hx (by omega) (by omega) (dA ABZ (by omega)) hq (by rw[hemp];exact⟨fun e he=>(by cases he)⟩) (by rw[hemp];exact PM _);have k1:kF x3 (Ou ((3:Nat):Int) 0 zA):=k1;have h0:El x3 (zA.q:Int) zA.a ((zA.k:Int)==2) 3 ((0:Nat):Int) (zA.size:Int)=0:=k1.2;have hX:fC x3 (Ou ((3:Nat):Int) 0 zA)=JO x3 (zA.q:Int) zA.a ((zA.k:Int)==2) 3 ((0:Nat):Int) (zA.size:Int):=rfl;have k2:(fC x3 (Ou ((3:Nat):Int) 0 zA)).AR=x3.AR.set 3 (C7 x3 3++[Ou ((3:Nat):Int) 0 zA]):=k2;have k3:lh (fC x3 (Ou ((3:Nat):Int) 0 zA)) _ (c+1):=k3;refine⟨x3,p1,p2,k1,fun o2=>?_,fun s2 o2 z2 hz=>?_,fun s hs3 hs z2 o2 hE=>?_⟩
 ·show El (fC x3 (Ou ((3:Nat):Int) 0 zA)) (zA.q:Int) zA.a ((zA.k:Int)==2) (Int.toNat ((3:Nat):Int)) o2 (zA.size:Int)=6;rw[hX,HR];exact AB6 hx hS hq h0 o2
 ·show El (fC x3 (Ou ((3:Nat):Int) 0 zA)) (zA.q:Int) zA.a ((zA.k:Int)==2) (Int.toNat (s2:Int)) o2 z2=2;rw[hX,HR];exact ACA hx hS hq h0 hz
 ·generalize fC x3 (Ou ((3:Nat):Int) 0 zA)=x4 at k2 k3;refine⟨hE,by rw[k2,Ly,hl];exact hs,by have:=k3.kl;omega,?_,by have:=(lH k3 zA.a).2;omega⟩
  by_cases e:s=3
  ·subst e;rw[fA (by omega) _ [] _ k2,hemp];show 1 < 80000;decide
  ·unfold C7;rw[k2,F5,JP,E7 (Zn e),<-F5];show(C7 x3 s).length < 80000;rw[he s hs3 hs];decide
theorem ACX (hF:FI st i rs us) (hi:i<=99) (h:DvB d bs) (hb:∀s,s < 3->bs s=B3 (rs s)) (h3:bs 3=B3 [zA,zA]) (h4:bs 4=[]):ScC d 6:=by
 have hle:∀s,3<=s->s < 5->(bs s).length<=600:=fun s h1 h2=>by
  by_cases e:s=3
  ·subst e;rw[h3,ACN];decide
  ·have:s=4:=by omega
   subst this;rw[h4];decide
 obtain⟨x3,p1,p2,k1,k2,_,k4⟩:=ABQ hF hi h hb hle;have hN:=AA6 hF (by omega) h hb hle;have hse:Gp d ((3:Nat):Int)=[Ou ((3:Nat):Int) 0 zA,Ou ((3:Nat):Int) (0+zA.size) zA]:=ABH h (by decide) h3 fun r hr=>by
  simp only[WL,Yk,lG,or_self]at hr;rw[hr];exact ABZ
 have r1:zx x3 (Ou ((3:Nat):Int) 0 zA)=0:=k1.2;have r2:zx (fC x3 (Ou ((3:Nat):Int) 0 zA)) (Ou ((3:Nat):Int) (0+zA.size) zA)=6:=k2 ((0+zA.size:Nat):Int);have hsz:=AA2;have hE:=dA ABZ (off:=0+zA.size) (by omega);have hok:=k4 3 (by decide) (by decide) _ _ hE;generalize Ou ((3:Nat):Int) 0 zA=e1 at hse k1 r1 r2 hok;have hAE:zG x3 [e1,Ou ((3:Nat):Int) (0+zA.size) zA]=6:=by
  show(bif zx x3 e1==0 then(bif zx (fC x3 e1) (Ou ((3:Nat):Int) (0+zA.size) zA)==0 then 0 else zx (fC x3 e1) (Ou ((3:Nat):Int) (0+zA.size) zA))else zx x3 e1)=6;rw[r1,r2];rfl
 have hS2:zn d 2 3 x3=6:=by
  show(bif zG x3 (Gp d ((3:Nat):Int))==0 then _ else zG x3 (Gp d ((3:Nat):Int)))=6;rw[hse,hAE];rfl
 have hA2:AAD d 2 3 x3:=by
  refine⟨AAt hN (by decide),?_,fun e=>?_⟩
  ·rw[hse];exact⟨k1.1,fun _=>⟨⟨by show((3:Nat):Int)=(Int.toNat ((3:Nat):Int):Int);rw[HR],hok⟩,fun _=>trivial⟩⟩
  ·rw[hse,hAE]at e;cases e
 have h5:d.AR.toNat=5:=by rw[h.sl];rfl
 have hD:ze d=6:=p1.trans hS2;exact⟨h.dn,⟨h.dn,by rw[h.sl];decide,by rw[h.sl];decide,by rw[h5];exact p2 hA2,by rw[hD];decide⟩,hD⟩
theorem ACm (hF:FI st i rs us) (hi:i<=99) (h:DvB d bs) (hb:∀s,s < 3->bs s=B3 (rs s)) (h3:bs 3=B3 [zA]) (h4:bs 4=B3 [AAJ]):ScC d 2:=by
 have hle:∀s,3<=s->s < 5->(bs s).length<=600:=fun s h1 h2=>by
  by_cases e:s=3
  ·subst e;rw[h3,ABy];decide
  ·have:s=4:=by omega
   subst this;rw[h4,ABz];decide
 obtain⟨x3,p1,p2,k1,_,k3,k4⟩:=ABQ hF hi h hb hle;have hN:=AA6 hF (by omega) h hb hle;have hse:Gp d ((3:Nat):Int)=[Ou ((3:Nat):Int) 0 zA]:=ABH h (by decide) h3 fun r hr=>by
  rw[I6]at hr;rw[hr];exact ABZ
 have hse4:Gp d ((4:Nat):Int)=[Ou ((4:Nat):Int) 0 AAJ]:=ABH h (by decide) h4 fun r hr=>by
  rw[I6]at hr;rw[hr];exact ACF
 have r1:zx x3 (Ou ((3:Nat):Int) 0 zA)=0:=k1.2;have hsz:=AA2;have hsz2:=ACP;have r2:zx (fC x3 (Ou ((3:Nat):Int) 0 zA)) (Ou ((4:Nat):Int) 0 AAJ)=2:=k3 4 ((0:Nat):Int) (AAJ.size:Int) (by omega);have hE:Mt (zA.q:Int) zA.a ((zA.k:Int)==2) ((0:Nat):Int) (AAJ.size:Int):=dA ACF (off:=0) (by omega);have hok:=k4 4 (by decide) (by decide) _ _ hE;generalize Ou ((3:Nat):Int) 0 zA=e1 at hse k1 r1 r2 hok;have hAE:zG x3 [e1]=0:=by
  show(bif zx x3 e1==0 then 0 else zx x3 e1)=0;rw[r1];rfl
 have hAE4:zG (fC x3 e1) [Ou ((4:Nat):Int) 0 AAJ]=2:=by
  show(bif zx (fC x3 e1) (Ou ((4:Nat):Int) 0 AAJ)==0 then 0 else zx (fC x3 e1) (Ou ((4:Nat):Int) 0 AAJ))=2;rw[r2];rfl
 have hS2:zn d 2 3 x3=2:=by
  show(bif zG x3 (Gp d ((3:Nat):Int))==0 then(bif zG (Nh x3 (Gp d ((3:Nat):Int))) (Gp d ((4:Nat):Int))==0 then 0 else zG (Nh x3 (Gp d ((3:Nat):Int))) (Gp d ((4:Nat):Int)))else zG x3 (Gp d ((3:Nat):Int)))=2;rw[hse,hAE,hse4];show(bif zG (fC x3 e1) [Ou ((4:Nat):Int) 0 AAJ]==0 then 0 else zG (fC x3 e1) [Ou ((4:Nat):Int) 0 AAJ])=2;rw[hAE4];rfl
 have hA2:AAD d 2 3 x3:=by
  refine⟨AAt hN (by decide),?_,fun _=>⟨AAt hN (by decide),?_,fun e=>?_⟩⟩
  ·rw[hse];exact⟨k1.1,fun _=>trivial⟩
  ·rw[hse,show Gp d ((3+1:Nat):Int)=[Ou ((4:Nat):Int) 0 AAJ]from hse4];exact⟨⟨by show((4:Nat):Int)=(Int.toNat ((4:Nat):Int):Int);rw[HR],hok⟩,fun _=>trivial⟩
  ·rw[hse,show Gp d ((3+1:Nat):Int)=[Ou ((4:Nat):Int) 0 AAJ]from hse4]at e;have e:zG (fC x3 e1) [Ou ((4:Nat):Int) 0 AAJ]=0:=e;rw[hAE4]at e;cases e
 have h5:d.AR.toNat=5:=by rw[h.sl];rfl
 have hD:ze d=2:=p1.trans hS2;exact⟨h.dn,⟨h.dn,by rw[h.sl];decide,by rw[h.sl];decide,by rw[h5];exact p2 hA2,by rw[hD];decide⟩,hD⟩
end
def b5 (b0 b1 b2 b3 b4:Bool):Nat->Bool
 | 0=>b0
 | 1=>b1
 | 2=>b2
 | 3=>b3
 | _=>b4
theorem AAf {d:Ab} {ks:Ad} (hd:d.down=false) (h1:1<=ks.length) (h2:ks.length<=34) (hk:∀x∈ks,0<=x/\x<=8192):Kd d 0 false ks=(0,⟨Ff ks d.BB d.BB.length,none,d.AR,d.ops,true⟩):=by
 have e:ks.all I0=true:=List.all_eq_true.2 fun x hx=>by
  obtain⟨a,b⟩:=hk x hx;unfold I0;rw[Fp a,Fp b];rfl
 have hp:FF 0 ks=true:=by
  unfold FF;rw[e,Fp h1,Fp h2];rfl
 unfold Kd;rw[hp,hd];rfl
structure zw (d:Ab) (rs:Nat->List C2) (us:Nat->Nat) (c:Bool):Prop where
 P:je d rs
 u:∀s:Nat,s < 5->us s<=(rs s).length/\(B3 ((rs s).take (us s))).length<=(CV d (s:Nat)).b.length
 all:c=false->∀s:Nat,s < 5->(CV d (s:Nat)).b=B3 (rs s)
abbrev rrE (c:BT):Prop:=AX XRf 21 vq (fun v _=>v= .bool true) c
theorem AC7 (hW:CY Tryz.prog AI Dj uw) (b s:Nat):Ci (cRf b s):= .cons gH <| .other ACk (KE (ACb b)) <| .other ABV (KE (ACc s)) <| .cons ABm <| .other (Z5 (by decide) kq cA) (bB (KE (M0 _ _))) <|
 .other Ox (KE Q6) <| .other QK (KE (M0 _ _)) <| .other zC (KE (M0 _ _)) <| .other Sl (KE (M0 _ _)) <| .OG fe dV <| .other hW tL .nil
theorem ADM (hW:CY Tryz.prog AI Dj uw) (b s:Nat):HO XRf (Ax (cRf b s)):=(AC7 hW b s).pf
theorem ACY (hW:CY Tryz.prog AI Dj uw) {b s:Nat} {S:Stop} {h1:BT->Bool} {Q:Bm} {R:Bz} {x:BT} (hS:21<=S.N) (hQ:∀v l,Q v l->v= .bool true) (hR:∀c,R c->rrE c) (h:ABc b s S h1 Q R x):rrE x:=
 IH (hs:=[]) (f:=vq) (ids:=[]) (S:=S) (S2:=S) (h1:=h1) (h2:=Jo) (ks:=[]) (Q:=Q) (R:=R) (R2:=fun _=>False) (Q':=fun v _=>v= .bool true) (ADM hW b s) (M:=21) (by kernel_rfl) hS hS (fun v H hq=>hQ _ _ hq) hR (fun _ h=>h.elim) 3000 x h
theorem ABf (hW:CY Tryz.prog AI Dj uw) {b s:Nat} {S:Stop} {h1:BT->Bool} {x y:BT} (hS:21<=S.N) (hy:rrE y) (h:ABc b s S h1 (fun _ _=>False) (fun c=>c=y) x):rrE x:=ACY hW hS (fun _ _ hq=>hq.elim) (fun c hc=>by rw[hc];exact hy) h
theorem ABs {d:Ab} (h:d.AR=5):BdC d 5 128 2 200 8 16 1 true:=by
 refine⟨by rw[h];decide,?_⟩;rw[h];have e:zU 5 128 2 200 8 16 1=0:=by unfold zU;rw[HI (by unfold zb;decide)]
 rw[e];rfl
section
variable {l:List B2} {L:Nat->Aw} {u:Nat->Int}
variable (hW:CY Tryz.prog AI Dj uw)
include hW in
theorem ADI {c:Ab} (h:ScC c 2):rrE (ACJ l c):=by
 refine ACY hW (b:=0) (s:=2) (S:=rrS []) (h1:=Jo) (Q:=fun v _=>v= .bool true) (R:=fun _=>False) (by decide) (fun v l hq=>hq) (fun c h=>h.elim) ?_;rw[ACv];exact⟨h,rfl⟩
include hW in
theorem ADJ {d c:Ab} (hs:d.AR=5) (h6:ScC d 6) (h:ScC c 2):rrE (ACE l d c L u):=by
 refine ABf hW (b:=2) (s:=6) (S:=rrS [13,14,17,24]) (h1:=AAp 38) (by decide) (ADI (l:=l) hW h) ?_;rw[AC5];exact⟨⟨ABs hs,h6⟩,rfl⟩
include hW in
theorem AC9 {d e3 e4 f3 c3 c4:Ab} {o1 o2:Ad} (l1:o1.length=18) (l2:o2.length=19) (h3:(Ma d 3 Jj BP.done).1=0) (k3:(Ma d 3 Jj BP.done).2=e3) (h4:(Ma e3 4 Jj BP.done).1=0) (k4:(Ma e3 4 Jj BP.done).2=e4) (hc:ACR e4)
 (hf:(DX e4 3 (o1++o1)).1=0) (kf:(DX e4 3 (o1++o1)).2=f3) (hc3:(DX e4 3 o1).1=0) (kc3:(DX e4 3 o1).2=c3) (hc4:(DX c3 4 o2).1=0) (kc4:(DX c3 4 o2).2=c4) (hs:f3.AR=5) (h6:ScC f3 6) (h2:ScC c4 2):rrE (ABt l d L u o1 o2):=by
 refine ABf hW (b:=0) (s:=6) (S:=rrS [7,10,13,14,24]) (h1:=AAp 37) (by decide) (ADJ (l:=l) (L:=L) (u:=u) hW hs h6 h2) ?_;have t1:List.take 18 (List.drop 0 o1)=o1:=by rw[O9,Pb (by omega)]
 have t2:List.take 18 (List.drop 0 (List.take 0 (List.drop 0 (List.replicate 36 (0:Int)))++o1))=o1:=by rw[vH,Yz,O9,Pb (by omega)]
 have t3:List.take 36 (o1++o1)=o1++o1:=Pb (by rw[Fu];omega);have t4:List.take 18 o1=o1:=Pb (by omega);have t5:List.take 19 o2=o2:=Pb (by omega);rw[AC2];(conv=>zeta);rw[t1,t2,t3,t4,t5,k3,k4,kf,kc3,kc4]
 refine⟨congrArg int h3,congrArg int h4,hc,AB ?_ (AB ?_ ⟨rfl,rfl,rfl,rfl,by rw[Fu];omega,congrArg int hf,by omega,congrArg int hc3,by omega,congrArg int hc4,h6,rfl⟩)⟩
 ·rw[l1];rfl
 ·rw[l1,Fu,l1];rfl
theorem take_one:List.take (Bu { data:=#[113] } { data:=#[49] }) (List.drop 0 (E3 1 100 { data:=#[113] } { data:=#[49] }))=B3 [zA]:=by
 rw[O9,Pb (by rw[E9];exact CC _)];exact(eA _).symm
theorem ACa:List.take (Bu { data:=#[113] } { data:=#[49,50] }) (List.drop 0 (E3 1 100 { data:=#[113] } { data:=#[49,50] }))=B3 [AAJ]:=by
 rw[O9,Pb (by rw[E9];exact CC _)];exact(eA _).symm
include hW in
theorem ADF {st:PF} {i:Nat} {rs:Nat->List C2} {us:Nat->Nat} (hF:FI st i rs us) (hi:i<=99):rrE (ACK l st.d L u):=by
 refine ABf hW (b:=0) (s:=0) (S:=rrS [7,10,22,23]) (h1:=AAp 31) (y:=ABt l st.d L u (B3 [zA]) (B3 [AAJ])) (by decide) ?_ (by rw[ACx,take_one,ACa];exact⟨rfl,rfl,rfl⟩);have h0:=ACQ hF;obtain⟨a1,a2⟩:=ABT h0 (k:=3) (by decide);obtain⟨b1,b2⟩:=ABT a2 (k:=4) (by decide);have n1:=ABy;have n2:=ABz;have e3:GR (GR (fun s=>B3 (rs s)) 3 []) 4 [] 3=[]:=rfl;have e4:GR (GR (fun s=>B3 (rs s)) 3 []) 4 [] 4=[]:=rfl;obtain⟨c1,c2⟩:=ABX (l:=B3 [zA]++B3 [zA]) b2 (k:=3) (by decide) (by rw[e3,Fu,n1];decide);obtain⟨d1,d2⟩:=ABX (l:=B3 [zA]) b2 (k:=3) (by decide) (by rw[e3,n1];decide);obtain⟨g1,g2⟩:=ABX (l:=B3 [AAJ]) d2 (k:=4) (by decide) (by
  rw[PX _ _ (by decide:4≠3),e4,n2];decide)
 have low:∀(A B:Ad) (s:Nat),s < 3->GR (GR (fun s=>B3 (rs s)) 3 A) 4 B s=B3 (rs s):=fun A B s hs=>by rw[PX _ _ (by omega),PX _ _ (by omega)]
 refine AC9 hW n1 n2 a1 rfl b1 rfl b2.cv c1 rfl d1 rfl g1 rfl c2.sl (ACX hF hi c2 (fun s hs=>?_) ?_ ?_) (ACm hF hi g2 (fun s hs=>?_) ?_ ?_)
 ·rw[PX _ _ (by omega),low _ _ s hs]
 ·rw[Mw,e3,Yz];show B3 [zA]++B3 [zA]=B3 ([zA]++[zA]);rw[Zk]
 ·rw[PX _ _ (by decide),e4]
 ·rw[PX _ _ (by omega),PX _ _ (by omega),low _ _ s hs]
 ·rw[PX _ _ (by decide),Mw,e3,Yz]
 ·rw[Mw,PX _ _ (by decide),e4,Yz]
include hW in
theorem ADD {st:PF} {i:Nat} {rs:Nat->List C2} {us:Nat->Nat} (hF:FI st i rs us) (hi:i<=99) {c:Ab} (hs:c.AR=5) (hd:c.down=true):rrE (ABw l st.d c L u):=by
 refine ABf hW (b:=1) (s:=0) (S:=rrS [7,10]) (h1:=AAp 29) (by decide) (ADF (l:=l) (L:=L) (u:=u) hW hF hi) ?_;have hp:0 < c.AR:=by rw[hs];decide
 have hne:(c.AR==0)=false:=by rw[hs];rfl
 rw[ACr];exact⟨⟨ABs hs,hd⟩,⟨hp,hd⟩,hp,AZ hne ⟨congrArg Value.bool hd,hp,AZ hne ⟨congrArg Value.bool hd,rfl⟩⟩⟩
include hW in
theorem ADG {st:PF} {i:Nat} {rs:Nat->List C2} {us:Nat->Nat} (hF:FI st i rs us) (hi:i<=99) {s z r w k v p:Int} (hbad:(zU s z r w k v p==0&&s==5)=false):rrE (AAz l st.d L u s z r w k v p):=by
 have ha:=AAf (d:=st.d) (ks:=[0]) hF.dn (by decide) (by decide) (fun x hx=>by rw[I6]at hx;rw[hx];decide);refine ABf hW (b:=0) (s:=0) (S:=rrS [7,10,14,13]) (h1:=AAp 24) (y:=ABw l st.d ⟨Ff [0] st.d.BB st.d.BB.length,none,st.d.AR,st.d.ops,true⟩ L u) (by decide) (ADD (l:=l) (L:=L) (u:=u) hW hF hi hF.sl rfl) ?_;have hB:∀d:Ab,d.AR=5->BdC d s z r w k v p false:=fun d hd=>⟨by rw[hd];decide,by rw[hd];exact hbad⟩
 rw[ACz];(conv=>zeta);rw[ha]
 exact⟨hB _ hF.sl,rfl,rfl,rfl,(ACQ hF).cv,⟨rfl,by decide⟩,rfl,hB _ hF.sl,rfl⟩
include hW in
theorem ACh {a k:Int} (hput:∀i,Ld (PJ l i)) (k0:0<=k) (k1:k < 65536):rrE (st vq [Ao 20 l.length,.int .u8 a,.int .u16 k] (hp [.vec JQ l true])):=by
 have hkl:=(Xn l.length).2;obtain⟨hall,rs,us,hF⟩:=ji hput (Mc l.length) 0 Oo _ _ (by omega) yG;have hst:Eo l (Mc l.length) 0 Oo=wO l l.length:=rfl;rw[hst,Hq]at hF;generalize hs0:wO l l.length=s0 at hF hst;have w1:IntKind.wrap .i64 k=k:=wrap64 (by omega) (by omega);have w2:IntKind.wrap .i64 (4+k)=4+k:=wrap64 (by omega) (by omega);have w3:IntKind.wrap .i64 (3+k)=3+k:=wrap64 (by omega) (by omega);refine ACY hW (b:=0) (s:=0) (S:=rrS [7,8]) (h1:=AAp 15) (Q:=fun _ _=>False) (R:=fun c=>∃s z r w k' v p,(zU s z r w k' v p==0&&s==5)=false/\c=AAz l s0.d s0.L s0.u s z r w k' v p) (by decide) (fun v l hq=>hq.elim) (fun c hc=>?_) ?_
 ·obtain⟨s,z,r,w,k',v,p,hb,rfl⟩:=hc;exact ADG hW hF (by omega) hb
 ·rw[AC1,hs0,w1,w2,w3];have bad:∀{s z r w k' v p:Int},¬zb s z r w k' v p->(zU s z r w k' v p==0&&s==5)=false:=fun h=>by
   unfold zU;rw[E7 h];rfl
  refine⟨⟨rfl,hall⟩,BX (fun _=>⟨_,_,_,_,_,_,_,?_,rfl⟩) fun _=>BX (fun _=>⟨_,_,_,_,_,_,_,?_,rfl⟩) fun _=>BX (fun _=>⟨_,_,_,_,_,_,_,?_,rfl⟩) fun _=>⟨_,_,_,_,_,_,_,?_,rfl⟩⟩
  ·exact ni _
  ·exact bad (by unfold zb;omega)
  ·exact bad (by unfold zb;omega)
  ·exact bad (by unfold zb;omega)
end
end Go.AD
