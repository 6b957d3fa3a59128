/-
  Part of the proof: the machine that runs a program by fixed orders, and that each of its runs is a run of the model; or a run of it in parts. No conditions.
-/
import Derived.Test.YtkccgiifmlhhjaaGreatDoorInc
import Derived.Test.YtkccgiifmlhhjaaGreatDoorLxb
import Derived.Test.YtkccgiifmlhhjaaGreatDoorIdTell3
noncomputable section
set_option maxRecDepth 1000000
namespace Go.AD
open Go.Proofs
structure qP (t m r y a b:Nat) (x:Cm) (H:AA):Prop where
 nd:[t,m,r,y,a,b].Nodup
 g0:H.get t=some (.cells [At m,Ao r x.AR.length] 0 false)
 g1:H.get m=some (.cells [.bool true,Ao y x.keys.length] 0 false)
 g2:H.get r=some (.vec [.tok] (GL a x.AR) false)
 g3:H.get y=some (.vec EV (Df b x.keys) false)
 g4:H.get a=some (.abs (.mem Ah (x.AR.map some)) false)
 g5:H.get b=some (.abs (.mem Ah (DY x.keys)) false)
theorem gI {base:Env} {W0 W:World} {μ:Ae} {H:AA} (h:AJ base W0 μ H W) {t m r y a b:Nat} {x:Cm} (hI:qP t m r y a b x H) (hd:∀z∈[t,m,r,y,a,b],∃T,μ z=some T):AJ base W0 μ (Le (.idx x) [t,m,r,y,a,b] H) W:=by
 have hS:=E2 (s:= .idx x) (H:=H) hI.nd;refine(h.shut (Bx.idx x) hI.nd rfl (by simp) hd (fun i z o hz ho=>?_) hS (fun o T ho=>by cases ho;exact id)).1
 match i,hz,ho with
 | 0,hz,ho=>cases hz;cases ho;exact⟨_,hI.g0,rfl,rfl,rfl⟩
 | 1,hz,ho=>cases hz;cases ho;exact⟨_,hI.g1,rfl,rfl,rfl⟩
 | 2,hz,ho=>cases hz;cases ho;exact⟨_,hI.g2,rfl,rfl,OV (by rfl) _ _⟩
 | 3,hz,ho=>cases hz;cases ho;exact⟨_,hI.g3,rfl,rfl,Nv (by rfl) _ _⟩
 | 4,hz,ho=>cases hz;cases ho;exact⟨_,hI.g4,rfl,rfl,rfl⟩
 | 5,hz,ho=>cases hz;cases ho;exact⟨_,hI.g5,rfl,rfl,rfl⟩
 | i+6,hz,ho=>cases hz
def aN (n:Nat):Cm:=⟨[],List.replicate n []⟩
def Ix (n:Nat) (H:AA):AA:=(H.put 20 (.vec [.tok] (List.replicate n (Value.slice none 0 0)) false)).put 22 (.cells [At 21,Ao 20 n] 0 false)
def Io (n:Nat) (H:AA):AA:=((Ix n H).FN EV).put 21 (.cells [.bool true,Ao (Ix n H).Cx 0] 0 false)
def P6 (n:Nat) (H:AA):AA:=((Io n H).alloc (.abs (.mem Ah (List.replicate n (some []))) false)).put 20 (.vec [.tok] (GL (Io n H).next (List.replicate n [])) false)
def Vt (n:Nat) (H:AA):AA:=(P6 n H).alloc (.abs (.mem Ah (List.replicate 0 (some []))) false)
def uQ (n:Nat) (H:AA):AW:=[22,21,20,(Ix n H).Cx,(Io n H).next,(P6 n H).next]
def xE (n:Nat) (H:AA):AA:=Le (.idx (aN n)) (uQ n H) (Vt n H)
theorem Zr (n:Nat) (H:AA):(Io n H).next=(Ix n H).Cx+1/\(P6 n H).next=(Io n H).next+1/\100<=(Ix n H).Cx/\(Ix n H).next<=(Ix n H).Cx:=⟨rfl,rfl,AA.O4 _,Nat.le_max_left _ _⟩
theorem U8 (n:Nat) (H:AA):(uQ n H).Nodup:=by
 obtain⟨h1,h2,h3,_⟩:=Zr n H;unfold uQ;simp only[AAU,zl,zq,AAw,ABw,zx,AAF];refine⟨?_,?_,?_,?_,by omega,id⟩
 all_goals omega
theorem mK {base:Env} {W0 W:World} {μ:Ae} {H:AA} {n:Nat} (hn:1<=n) (hn2:n<=32) (hH:AJ base W0 μ H W) (hm:∃T,μ 22=some T) (g20:H.get 20=some (.cells (List.replicate n (.slice none 0 0)) 1 false)) (g21:H.get 21=some (.cells [.bool true,.slice none 0 0] 0 false)) (g22:H.get 22=some (.cells [At 21,.slice (some ⟨20,0,none⟩) n n] 0 false)):
 ∃μ2,μ.le μ2/\AJ base W0 μ2 (xE n H) W:=by
 obtain⟨e1,e2,e3,e4⟩:=Zr n H;have l20:=hH.lt g20;have l22:=hH.lt g22;have m21:∃T,μ 21=some T:=JW.bN hH (rs:=[22]) (fun r hr=>by simp at hr;subst hr;exact hm) (.next (.here (by simp)) g22 (List.mem_flatMap.2 ⟨At 21,by simp,by show 21∈[21];simp⟩))
 have m20:∃T,μ 20=some T:=JW.bN hH (rs:=[22]) (fun r hr=>by simp at hr;subst hr;exact hm) (.next (.here (by simp)) g22 (List.mem_flatMap.2 ⟨.slice (some ⟨20,0,none⟩) n n,by simp,by show 20∈[20];simp⟩))
 have k1:=hH.JF (b:=20) (k:=[.tok]) (l:=List.replicate n (Value.slice none 0 0)) (ro:=false) (by rw[D9];exact g20);have k2:=k1.ke (b:=22) (n:=20) (len:=n) (cap:=n) (e:=0) (k:=[.tok]) (l:=List.replicate n (Value.slice none 0 0)) (ro:=false) (ro2:=false) (pre:=[At 21]) (post:=[]) (by rw[AA.AU,zF (by decide)];exact g22) (by rw[AA.AU,zJ rfl]) (by omega) (zA _) (by rw[zw];exact zA _) (by omega);rw[Dh]at k2;have k2:AJ base W0 μ (Ix n H) W:=k2;have p21:(Ix n H).get 21=some (.cells [.bool true,.slice none 0 0] 0 false):=by
  unfold Ix;rw[AA.AU,zF (by decide),AA.AU,zF (by decide)];exact g21
 have p20:(Ix n H).get 20=some (.vec [.tok] (List.replicate n (Value.slice none 0 0)) false):=by
  unfold Ix;rw[AA.AU,zF (by decide),AA.AU,zJ rfl]
 have p22:(Ix n H).get 22=some (.cells [At 21,Ao 20 n] 0 false):=by
  unfold Ix;rw[AA.AU,zJ rfl]
 obtain⟨ν1,u1,k3⟩:=k2.lZ (c:=20) (k:=EV) (b:=21) (e:=0) (ro:=false) (pre:=[.bool true]) (post:=[]) m20 p21 (by decide);rw[Dh]at k3;have k3:AJ base W0 ν1 (Io n H) W:=k3;have q21:(Io n H).get 21=some (.cells [.bool true,Ao (Ix n H).Cx 0] 0 false):=by
  unfold Io;rw[AA.AU,zJ rfl]
 have qo:∀z,z≠21->z≠(Ix n H).Cx->(Io n H).get z=(Ix n H).get z:=fun z z1 z2=>by
  unfold Io;rw[AA.AU,zF z1,AA.KH,zF z2]
 have qy:(Io n H).get (Ix n H).Cx=some (.vec EV [] false):=by
  unfold Io;rw[AA.AU,zF (by omega),AA.KH,zJ rfl]
 obtain⟨T,hT⟩:=m20;have k4:=k3.qa Ah n (by decide) (u1 20 T hT);generalize hT2:(⟨T.c,0,0,CH (List.replicate n ⟨T.c,0,0,Ah.length⟩)⟩:Bc)=T2 at k4;have u2:ν1.le (ν1.ext (Io n H).next T2):=Ae.Cc T2 (k3.fresh _ (zA _)).2;have k5:=k4.NV (b:=20) (k:=[.tok]) (x:=List.replicate n (Value.slice none 0 0)) (x':=GL (Io n H).next (List.replicate n [])) (ro:=false) (by rw[AA.AM,zF (by omega),qo 20 (by decide) (by omega)];exact p20) (by rw[DS,zw,zw]) (fun w hw=>by
  rw[D9]at hw ⊢;refine Am.ah _ _ _ (by rw[DS,zw,zw]) (fun i v v' h1 h2 u hu=>?_) hw;rw[M7,AA4]at h2;rw[AA4]at h1;split at h1
  ·rename_i hi;rw[zJ hi]at h2;cases h1;cases h2;cases hu
   exact .F9 _ i cU _ none (Ae.Af _ _ _) (.inr ⟨by rw[Dh];exact zA _,by rw[Dh];exact AAH _⟩)
  ·cases h1)
 have k5:AJ base W0 _ (P6 n H) W:=k5;have k6:=k5.qa Ah 0 (by decide) (u2 20 T (u1 20 T hT));generalize (⟨T.c,0,0,CH (List.replicate 0 ⟨T.c,0,0,Ah.length⟩)⟩:Bc)=T3 at k6;have u3:(ν1.ext (Io n H).next T2).le ((ν1.ext (Io n H).next T2).ext (P6 n H).next T3):=Ae.Cc T3 (k5.fresh _ (zA _)).2;have k6:AJ base W0 _ (Vt n H) W:=k6;have r4:∀z,z≠20->z < (Io n H).next->(Vt n H).get z=(Io n H).get z:=fun z z1 z2=>by
  unfold Vt;rw[AA.AM,zF (by omega)];unfold P6;rw[AA.AU,zF z1,AA.AM,zF (by omega)]
 have hy:∃T,ν1 (Ix n H).Cx=some T:=JW.bN k3 (rs:=[21]) (fun r hr=>by simp at hr;subst hr;obtain⟨X,hX⟩:=m21;exact⟨X,u1 _ _ hX⟩) (.next (.here (by simp)) q21 (List.mem_flatMap.2 ⟨Ao (Ix n H).Cx 0,by simp,Kz⟩))
 have hI:qP 22 21 20 (Ix n H).Cx (Io n H).next (P6 n H).next (aN n) (Vt n H):=by
  refine⟨U8 n H,?_,?_,?_,?_,?_,?_⟩
  ·rw[r4 22 (by decide) (by omega),qo 22 (by decide) (by omega),p22];unfold aN;rw[zw]
  ·rw[r4 21 (by decide) (by omega),q21];rfl
  ·unfold Vt;rw[AA.AM,zF (by omega)];unfold P6;rw[AA.AU,zJ rfl];rfl
  ·rw[r4 _ (by omega) (by omega),qy];rfl
  ·unfold Vt;rw[AA.AM,zF (by omega)];unfold P6;rw[AA.AU,zF (by omega),AA.AM,zJ rfl];unfold aN;rw[List.map_replicate]
  ·unfold Vt;rw[AA.AM,zJ rfl];rfl
 refine⟨_,Ae.le_trans u1 (Ae.le_trans u2 u3),gI k6 hI fun z hz=>?_⟩;have up:∀z,(∃T,ν1 z=some T)->∃T,((ν1.ext (Io n H).next T2).ext (P6 n H).next T3) z=some T:=fun z ⟨X,hX⟩=>⟨X,u3 _ _ (u2 _ _ hX)⟩
 have up0:∀z,(∃T,μ z=some T)->∃T,((ν1.ext (Io n H).next T2).ext (P6 n H).next T3) z=some T:=fun z ⟨X,hX⟩=>up z ⟨X,u1 _ _ hX⟩
 simp only[zl,zq,AAw]at hz;rcases hz with rfl | rfl | rfl | rfl | rfl | rfl
 ·exact up0 _ hm
 ·exact up0 _ m21
 ·exact up0 _ ⟨T,hT⟩
 ·exact up _ hy
 ·exact⟨T2,u3 _ _ (Ae.Af _ _ _)⟩
 ·exact⟨T3,Ae.Af _ _ _⟩
def yP (args:AL) (objs:BN):GT:=match args,objs with
 | [.int .i64 n],[]=> .ask (1<=n/\n<=32) (.ret ⟨.tuple ⟨[At 20,int 0]⟩,[],[.abs (.pack (.idx (aN n.toNat))) false]⟩)
 | _,_=> .fail
theorem gu:CY Tryz.prog AI E0 (Ai AI 20 [] yP):=by
 refine BF dX.all (by kernel_rfl) (n:=BD E0) (by kernel_rfl) (by kernel_rfl) fun argsc objs x hx hro=>?_
 clear hro;unfold yP at hx;split at hx
 ·rename_i n;simp only[GT.run]at hx;split at hx
  ·rename_i hp0;cases hx
   obtain⟨m,rfl⟩:∃m:Nat,n=(m:Int):=⟨n.toNat,by omega⟩
   rw[zH];have hm1:1<=m:=by omega
   have hm2:m<=32:=by omega
   refine⟨VC (by kernel_rfl),Ak.tell (AX.Fh (BK dX.pf (M:=20) (by kernel_rfl) (ri (fun v os=>v= .tuple ⟨[At 22,int 0]⟩/\os=[some (.cells (List.replicate m (.slice none 0 0)) 1 false),some (.cells [.bool true,.slice none 0 0] 0 false),some (.cells [At 21,.slice (some ⟨20,0,none⟩) m m] 0 false),some (.cells [At 21,.slice (some ⟨20,0,none⟩) m m] 0 false)]) m hm1 hm2 ⟨rfl,rfl⟩))) ?_⟩;rintro v H ⟨rfl,hos⟩;have hos:[20,21,22,22].map H.get=_:=hos;simp only[zb,AAY,zQ,AAF]at hos;obtain⟨g20,g21,g22,_⟩:=hos;refine⟨.tuple ⟨[At 22,int 0]⟩,xE m H,fun base W0 μ W v' _ hv hH=>?_,?_⟩
   ·have hm:∃T,μ 22=some T:=FJ (Am.cons hv .nil) 22 (by show 22∈[22];simp)
    obtain⟨μ2,r1,r2⟩:=mK hm1 hm2 hH hm g20 g21 g22;exact⟨μ2,r1,r2,hv.mono r1⟩
   ·refine⟨[22],by simp,fun b hb=>?_,rfl,rfl,fun j b o hj ho=>?_,fun j o hj=>(by cases hj)⟩
    ·simp at hb;subst hb;decide
    ·match j,hj,ho with
     | 0,hj,ho=>
      cases hj;cases ho
      exact⟨_,rfl,(E2 (U8 m H)).root 22 rfl⟩
     | j+1,hj,_=>cases hj
  ·cases hx
 ·cases hx
theorem IU {N:Nat} {q q1:Gk} (h:∀s rest os x,(q1 s rest os).gt.run=some x->(q s rest os).gt.run=some x):∀a o x,(CX N q1 a o).run=some x->(CX N q a o).run=some x:=by
 intro a o x hx;unfold CX at hx ⊢;split at hx
 ·rename_i b rest s ro os;cases hb:Nat.beq b N
  ·simp only[hb,zC,GT.run]at hx;cases hx
  ·simp only[hb,y8]at hx ⊢;exact h _ _ _ _ hx
 ·cases hx
def A8 (d:Ab) (i:Int):Int:=(CV d i).b.length
def oa:Gk:=fun p rest os=>match p,rest,os with
 | .dev d,[.int .i64 i],[]=> .ask (d.down=false/\Ba d.BB i=false) (.ret ⟨DE (A8 d i) 0,.dev d,[]⟩)
 | _,_,_=> .fail
def fR:Gk:=fun p rest os=>match p,rest,os with
 | .dev d,[.int .i64 i,.int .i64 a,.int .i64 k],[]=> .ask (Kj d i a k=true) (.ret ⟨.tuple ⟨[Ao 21 (Ed d i a k).length,int 0]⟩,.dev d,[.vec kB (Ed d i a k) false]⟩)
 | _,_,_=> .fail
def ax:Gk:=fun p rest os=>match p,rest,os with
 | .dev d,[],[]=> .ask (d.down=false) (.ret ⟨.bool false,.dev d,[]⟩)
 | _,_,_=> .fail
def Tx:Gk:=fun p rest os=>match p,rest,os with
 | .dev d,[],[]=> .ask (0 < d.AR) (.ret ⟨int d.AR,.dev d,[]⟩)
 | _,_,_=> .fail
def uG:Gk:=fun p rest os=>match p,rest,os with
 | .idx x,[.agg ⟨[.int .i64 q,.string a,.bool d,.int .i64 s,.int .i64 o,.int .i64 z]⟩],[]=> .ask ((s=(s.toNat:Int)/\Lr x q a d s.toNat o z)/\El x q a d s.toNat o z=0) (.ret ⟨int 0,.idx (JO x q a d s.toNat o z),[]⟩)
 | _,_,_=> .fail
theorem Ws:∀a o x,(CX 20 oa a o).run=some x->(CX 20 (HK fun m=>m.b.length) a o).run=some x:=IU fun s rest os x hx=>by
 unfold oa at hx;unfold HK;split at hx
 ·rename_i d i;simp only[PT.gt,GT.run]at hx ⊢;split at hx
  ·rename_i h;rw[Nj h.1 h.2];exact hx
  ·cases hx
 ·simp only[PT.gt,GT.run]at hx;cases hx
theorem bU:∀a o x,(CX 20 fR a o).run=some x->(CX 20 M4 a o).run=some x:=IU fun s rest os x hx=>by
 unfold fR at hx;unfold M4;split at hx
 ·rename_i d i a k;simp only[PT.gt,GT.run]at hx ⊢;split at hx
  ·rename_i h;rw[h];exact hx
  ·cases hx
 ·simp only[PT.gt,GT.run]at hx;cases hx
theorem Sy:∀a o x,(CX 20 ax a o).run=some x->(CX 20 (FT (fun d=> .bool d.down) id) a o).run=some x:=IU fun s rest os x hx=>by
 unfold ax at hx;unfold FT;split at hx
 ·rename_i d;simp only[PT.gt,GT.run]at hx ⊢;split at hx
  ·rename_i h;rw[h];exact hx
  ·cases hx
 ·simp only[PT.gt,GT.run]at hx;cases hx
theorem Q6:∀a o x,(CX 20 Tx a o).run=some x->(CX 20 (FT (fun d=>int d.AR) id) a o).run=some x:=IU fun s rest os x hx=>by
 unfold Tx at hx;unfold FT;split at hx
 ·rename_i d;simp only[PT.gt,GT.run]at hx ⊢;split at hx
  ·exact hx
  ·cases hx
 ·simp only[PT.gt,GT.run]at hx;cases hx
theorem jC:∀a o x,(CX 20 uG a o).run=some x->(s7 a o).run=some x:=IU fun s rest os x hx=>by
 unfold uG at hx;unfold Yl;split at hx
 ·rename_i y q a d s o z;simp only[PT.gt,GT.run]at hx ⊢;split at hx
  ·rename_i h;rw[zJ ⟨h.1,trivial⟩,h.2];exact hx
  ·cases hx
 ·simp only[PT.gt,GT.run]at hx;cases hx
def pR:List GA:=[(DQ,Ai AI 20 [true] (CX 20 (HK fun m=>m.b.length)),Cs AI 20 [true] (CX 20 oa)),
 (Cb,Ai AI 20 [true] (CX 20 M4),Cs AI 20 [true] (CX 20 fR)),
 (Di,Ai AI 20 [true] (CX 20 (FT (fun d=> .bool d.down) id)),Cs AI 20 [true] (CX 20 ax)),
 (DT,Ai AI 20 [true] (CX 20 (FT (fun d=>int d.AR) id)),Cs AI 20 [true] (CX 20 Tx)),
 (AE,Ai AI 20 [true] s7,Cs AI 20 [true] (CX 20 uG)),GQ E0 [] yP,GQ Ay [] yW]
theorem YF:Ci pR:= .OG Sz Ws <| .OG YH bU <| .OG QK Sy <| .OG Ox Q6 <| .OG og jC <| .cons gu <| .cons rB .nil
abbrev Yr:Ctx:=Bp Tryz.prog AI (Cv pR)
def qZ:Stop:=⟨Aq,1,2,21,[20],[0,1,9,10]⟩
def cP:Stop:=⟨Ac,2,3,21,[20],[2,3,5,41,42,43]⟩
def wx:FV:=[(Aq,[0,1,9,10,30]),(Ac,[2,3,5])]
def wu:Tr Value:=EZ [(2,At 26),(3,At 24),(5,At 25)]
def x6 (b:Bool):AP:= .loop ⟨bif b then .busy else .ready,none,Ac,wu,BD Ac,#[30,31],A9 Tryz.prog Ac [1,1,1,1,0,1,0,0],A9 Tryz.prog Ac [1,1,1,1,0,1,0,1],22⟩
def pI (d:Ab) (x:Cm) (n i:Int):BT:=
 ⟨⟨Aq,EZ [(0,.func (.yield 23) ⟨[]⟩ ⟨[]⟩),(1,At 21),(9,int n),(10,int i)],BD Aq,[.code (A9 Tryz.prog Aq [1,0,0]),.inLoop (A9 Tryz.prog Aq [1,0,0]),.inBlock 0],[],false,.normal,none⟩,
  [⟨Ac,wu,BD Ac,[.inRangeFunc 23,.inBlock 0,.code (A9 Tryz.prog Ac [1,1,1,1,1])],[⟨.collected 22,⟨[]⟩⟩],false,.normal,none⟩],
  (((((((hp [.abs (.pack (.dev d)) false]).alloc (.cells [At 20] 0 false)).alloc (.deferred (some []))).alloc (x6 false)).alloc (.cells [int 0] 0 false)).alloc (.cells [At 27] 0 false)).alloc (.cells [.pointer none] 0 false)).alloc (.abs (.pack (.idx x)) false)⟩
def T8 (d:Ab) (i:Int):Aw:=GS (Ed d i 0 (A8 d i)) 0 (List.length (Ed d i 0 (A8 d i))) i (List.length (Ed d i 0 (A8 d i))) 0
def yf (x:Cm) (es:Aw) (j:Int):Cm:=JO x (DI es (0+j.toNat)).1 (DI es (0+j.toNat)).2.1 (DI es (0+j.toNat)).2.2.1 (DI es (0+j.toNat)).2.2.2.1.toNat (DI es (0+j.toNat)).2.2.2.2.1 (DI es (0+j.toNat)).2.2.2.2.2
def qE:Tr Value:=EZ [(2,At 21),(3,At 22),(5,At 23)]
def xO:AP:= .loop ⟨.busy,none,Ac,qE,BD Ac,#[30,31],A9 Tryz.prog Ac [1,1,1,1,0,1,0,0],A9 Tryz.prog Ac [1,1,1,1,0,1,0,1],27⟩
def uz (d:Ab) (x:Cm) (es:Aw) (m:Nat) (n i j:Int):BT:=
 ⟨⟨Ac,EZ [(2,At 21),(3,At 22),(5,At 23),(41,Ao 24 m),(42,int m),(43,int j)],BD Ac,[.code (A9 Tryz.prog Ac [1,1,1,1,0,1,0,1,0,1,1,1,0,0]),.inLoop (A9 Tryz.prog Ac [1,1,1,1,0,1,0,1,0,1,1,1,0,0]),.inBlock 2,.inBlock 1],[],false,.normal,some 25⟩,
  [⟨Aq,EZ [(0,.func (.yield 25) ⟨[]⟩ ⟨[]⟩),(1,At 26),(9,int n),(10,int i),(30,.bool false)],BD Aq,[GU (A9 Tryz.prog Aq [1,0,0,1,1,0,0,1,1,1,1,0]) 6,.code (A9 Tryz.prog Aq [1,0,0,1,1,0,0,1,1,1,1,1]),.inBlock 1,.code (A9 Tryz.prog Aq [1,0,0,1,1,1]),.inLoop (A9 Tryz.prog Aq [1,0,0]),.inBlock 0],[],false,.normal,none⟩,
   ⟨Ac,qE,BD Ac,[.inRangeFunc 25,.inBlock 0,.code (A9 Tryz.prog Ac [1,1,1,1,1])],[⟨.collected 27,⟨[]⟩⟩],false,.normal,none⟩],
  ((((((((hp [.abs (.pack (.dev d)) false]).alloc (.cells [.pointer none] 0 false)).alloc (.cells [int 0] 0 false)).alloc (.cells [At 28] 0 false)).alloc (.vec Ah es false)).alloc xO).alloc (.cells [At 20] 0 false)).alloc (.deferred (some []))).alloc (.abs (.pack (.idx x)) false)⟩
theorem sN (d:Ab) (Q:Bm) (R:Bz):Iy Yr (Ax pR) [] Ac [20] qZ wx Q R 900 (st Ac [At 20] (hp [.abs (.pack (.dev d)) false]))=(
 let a:=Ab.AR d;(0 < Ab.AR d)/\(bif Ab.AR d==0 then(Q (.tuple ⟨[(.pointer none),(int 1)]⟩) [some (.abs (Ct.pack (PL.nx { v:=int a,nx:=Pk.dev d,news:=[] })) false)])else((d.5)=(false))/\(0 < Ab.AR d)/\(1<=Ab.AR d/\Ab.AR d<=32)/\(0 < Ab.AR d)/\(R (pI d (aN a.toNat) a 0)))):=by kernel_rfl
theorem Y9 (d:Ab) (x:Cm) (n i:Int) (Q:Bm) (R R2:Bz):NH Yr (Ax pR) [] Ac [20] qZ (fun c=>qZ.here c) cP (fun c=>cP.here c) wx Q R R2 900 (pI d x n i)=(
 let a:=Ed d i 0 (A8 d i);(bif decide (i < n)then(Ab.down d=false/\Ba (Ab.BB d) i=false)/\(bif A8 d i==0 then(R (pI d x n (IntKind.wrap .i64 (i+1))))else((Bool.rec (bif Ba (Ab.BB d) i then false else !Ij (CV d i) 0 (A8 d i)) false (Ab.down d))=(true))/\(rL a 0 a.length i)/\(R2 (uz d x (T8 d i) (T8 d i).length n i 0)))else(Q (.tuple ⟨[(At 27),(int 0)]⟩) [some (.abs (Ct.pack (Pk.dev d)) false),some (.abs (Ct.pack (Pk.idx x)) false)]))):=by kernel_rfl
theorem jM (d:Ab) (x:Cm) (es:Aw) (m:Nat) (n i j:Int) (Q:Bm) (R R2:Bz):NH Yr (Ax pR) [] Ac [20] qZ (fun c=>qZ.here c) cP (fun c=>cP.here c) wx Q R R2 900 (uz d x es m n i j)=(
 let a:=List.getD es (0+j.toNat) (EK.BL Ah);(bif decide (j < (m:Int))then(bif decide (0<=j)&&Nat.blt j.toNat m then(bif Nat.blt (0+j.toNat) es.length then((a.2.2.2.1=(a.2.2.2.1.toNat:Int)/\Lr x a.1 a.2.1 a.2.2.1 a.2.2.2.1.toNat a.2.2.2.2.1 a.2.2.2.2.2)/\El x a.1 a.2.1 a.2.2.1 a.2.2.2.1.toNat a.2.2.2.2.1 a.2.2.2.2.2=0)/\(R2 (uz d (yf x es j) es m n i (IntKind.wrap .i64 (j+1))))else False)else False)else(R (pI d x n (IntKind.wrap .i64 (i+1)))))):=by kernel_rfl
def kF (x:Cm) (e:NQ):Prop:=(e.2.2.2.1=(e.2.2.2.1.toNat:Int)/\Lr x e.1 e.2.1 e.2.2.1 e.2.2.2.1.toNat e.2.2.2.2.1 e.2.2.2.2.2)/\El x e.1 e.2.1 e.2.2.1 e.2.2.2.1.toNat e.2.2.2.2.1 e.2.2.2.2.2=0
def fC (x:Cm) (e:NQ):Cm:=JO x e.1 e.2.1 e.2.2.1 e.2.2.2.1.toNat e.2.2.2.2.1 e.2.2.2.2.2
def Nh (x:Cm) (es:Aw):Cm:=es.foldl fC x
def Zq:Cm->Aw->Prop
 | _,[]=>True
 | x,e::r=>kF x e/\Zq (fC x e) r
def Gp (d:Ab) (i:Int):Aw:=bif A8 d i==0 then []else T8 d i
structure uC (d:Ab) (i:Int):Prop where
 dn:d.down=false
 bad:Ba d.BB i=false
 rd:(A8 d i==0)=false->Kj d i 0 (A8 d i)=true/\rL (Ed d i 0 (A8 d i)) 0 (Ed d i 0 (A8 d i)).length i
def Zz (d:Ab):Nat->Nat->Cm->Prop
 | 0,_,_=>True
 | k+1,i,x=>uC d (i:Nat)/\Zq x (Gp d (i:Nat))/\Zz d k (i+1) (Nh x (Gp d (i:Nat)))
def Mh (d:Ab):Nat->Nat->Cm->Cm
 | 0,_,x=>x
 | k+1,i,x=>Mh d k (i+1) (Nh x (Gp d (i:Nat)))
def EG (d:Ab):Cm:=Mh d d.AR.toNat 0 (aN d.AR.toNat)
structure N9 (d:Ab):Prop where
 dn:d.down=false
 s1:2<=d.AR
 s2:d.AR<=32
 all:Zz d d.AR.toNat 0 (aN d.AR.toNat)
def bK (d:Ab) (x:Cm) (v:Value) (H:AA):Prop:=v= .tuple ⟨[At 27,int 0]⟩/\[20,27].map H.get=[some (.abs (.pack (.dev d)) false),some (.abs (.pack (.idx x)) false)]
theorem dG {l:Aw} {j:Nat} (h:j < l.length):l.drop j=DI l j::l.drop (j+1):=by
 rw[AAR h]
 congr 1
 unfold DI;rw[zK,zG h];rfl
theorem ad (b c:Bool) (h:(bif b then false else c)=true):(Bool.rec (motive:=fun _=>Bool) c false b)=true:=by
 cases b<;>exact h
theorem Vj {Q:Bm} {R R2:Bz} {Q':Ih} {c:BT} (hQ:∀v H,Q v (([20]++Au 4 v).map H.get)->Q' v H) (hR:∀c,R c->AX Yr 21 Ac Q' c) (hR2:∀c,R2 c->AX Yr 21 Ac Q' c)
 (h:NH Yr (Ax pR) [] Ac [20] qZ (fun c=>qZ.here c) cP (fun c=>cP.here c) wx Q R R2 900 c):AX Yr 21 Ac Q' c:=
 IH YF.pf (M:=21) (by kernel_rfl) (by decide) (by decide) hQ hR hR2 900 _ h
theorem YD {d:Ab} {n:Int} {i:Nat} {xf x0:Cm} {es:Aw} (hl:es.length < 100000) (hi:i < 100)
 (hA:AX Yr 21 Ac (bK d xf) (pI d (Nh x0 es) n ((i+1:Nat):Int))):∀(k j:Nat) (x:Cm),es.length - j=k->j<=es.length->Nh x (es.drop j)=Nh x0 es->Zq x (es.drop j)->
 AX Yr 21 Ac (bK d xf) (uz d x es es.length n (i:Nat) (j:Nat)):=by
 intro k;induction k with
 | zero=>
  intro j x hk hj hx ha;have hd:es.drop j=[]:=AAQ (by omega);refine Vj (Q:=fun _ _=>False) (R:=fun c=>c=pI d x n ((i+1:Nat):Int)) (R2:=fun _=>False) (fun v H hq=>hq.elim) (fun c hc=>?_) (fun c h=>h.elim) ?_
  ·rw[hc];rw[hd]at hx;have hx:x=Nh x0 es:=hx;rw[hx];exact hA
  ·rw[jM];refine AZ (zL (by omega)) ?_;rw[wrap64 (by omega) (by omega)];rfl
 | succ k ih=>
  intro j x hk hj hx ha;have hlt:j < es.length:=by omega
  rw[dG hlt]at hx ha;refine Vj (Q:=fun _ _=>False) (R:=fun _=>False) (R2:=fun c=>c=uz d (fC x (DI es j)) es es.length n (i:Nat) ((j+1:Nat):Int)) (fun v H hq=>hq.elim) (fun c h=>h.elim) (fun c hc=>?_) ?_
  ·rw[hc];exact ih (j+1) _ (by omega) (by omega) hx ha.2
  ·rw[jM];(conv=>zeta)
   have hw:IntKind.wrap .i64 ((j:Int)+1)=((j+1:Nat):Int):=by rw[wrap64 (by omega) (by omega)];rfl
   rw[hw];unfold yf;simp only[zH,zN];have h1:=ha.1;unfold kF at h1;refine AB (zE (by omega)) (AB (EI hlt) (AB (Gc hlt) ⟨h1,?_⟩));exact rfl
theorem Xv {d:Ab} {n:Nat} (hn:n<=32):∀(k i:Nat) (x:Cm),n - i=k->i<=n->Zz d k i x->
 AX Yr 21 Ac (bK d (Mh d k i x)) (pI d x (n:Nat) (i:Nat)):=by
 intro k;induction k with
 | zero=>
  intro i x hk hi _;refine Vj (Q:=fun v os=>v= .tuple ⟨[At 27,int 0]⟩/\os=[some (.abs (.pack (.dev d)) false),some (.abs (.pack (.idx x)) false)]) (R:=fun _=>False) (R2:=fun _=>False) (fun v H hq=>?_) (fun c h=>h.elim) (fun c h=>h.elim) ?_
  ·obtain⟨rfl,hos⟩:=hq;exact⟨rfl,hos⟩
  ·rw[Y9];exact AZ (zL (by omega)) ⟨rfl,rfl⟩
 | succ k ih=>
  intro i x hk hi ha;obtain⟨h1,h2,h3⟩:=ha;have hw:IntKind.wrap .i64 ((i:Int)+1)=((i+1:Nat):Int):=by rw[wrap64 (by omega) (by omega)];rfl
  have hnext:=ih (i+1) (Nh x (Gp d (i:Nat))) (by omega) (by omega) h3;cases h0:(A8 d (i:Nat)==0)
  ·have he:Gp d (i:Nat)=T8 d (i:Nat):=by unfold Gp;rw[h0];rfl
   rw[he]at h2 hnext;obtain⟨r1,r2⟩:=h1.rd h0;refine Vj (Q:=fun _ _=>False) (R:=fun _=>False) (R2:=fun c=>c=uz d x (T8 d (i:Nat)) (T8 d (i:Nat)).length (n:Nat) (i:Nat) ((0:Nat):Int)) (fun v H hq=>hq.elim) (fun c h=>h.elim) (fun c hc=>?_) ?_
   ·rw[hc];have hes:(T8 d (i:Nat)).length < 100000:=by
     have:=Sm (Ed d (i:Nat) 0 (A8 d (i:Nat))) 0 (Ed d (i:Nat) 0 (A8 d (i:Nat))).length (i:Nat) (Ed d (i:Nat) 0 (A8 d (i:Nat))).length 0;have hb:=r2.hb;unfold T8;omega
    have:=YD (x0:=x) hes (by omega) hnext _ 0 x rfl (za _) rfl h2;unfold Mh;rw[he];exact this
   ·rw[Y9];exact AB (zE (by omega)) ⟨⟨h1.dn,h1.bad⟩,AZ h0 ⟨ad _ _ r1,r2,rfl⟩⟩
  ·have he:Gp d (i:Nat)=[]:=by unfold Gp;rw[h0];rfl
   refine Vj (Q:=fun _ _=>False) (R:=fun c=>c=pI d x (n:Nat) ((i+1:Nat):Int)) (R2:=fun _=>False) (fun v H hq=>hq.elim) (fun c hc=>?_) (fun c h=>h.elim) ?_
   ·rw[hc];unfold Mh;rw[he]at hnext ⊢;exact hnext
   ·rw[Y9];exact AB (zE (by omega)) ⟨⟨h1.dn,h1.bad⟩,AB h0 (by rw[hw])⟩
theorem fI {d:Ab} (h:N9 d):AX Yr 21 Ac (bK d (EG d)) (st Ac [At 20] (hp [.abs (.pack (.dev d)) false])):=by
 obtain⟨n,hn⟩:∃n:Nat,d.AR=(n:Int):=⟨d.AR.toNat,by have:=h.s1;omega⟩
 have h1:=h.s1;have h2:=h.s2;have hall:=h.all;rw[hn]at h1 h2;refine Bq YF.pf [] [20] qZ wx (by kernel_rfl) (show 21<=21 from zA _) (fun _ _=>False) (fun c=>c=pI d (aN n) (n:Nat) ((0:Nat):Int)) (fun v H h=>h.elim) (fun c hc=>?_) (n:=900) ?_
 ·rw[hc];have:=Xv (d:=d) (n:=n) (by omega) n 0 (aN n) rfl (za _) (by rw[hn,zH]at hall;exact hall);unfold EG;rw[hn,zH];exact this
 ·rw[sN];(conv=>zeta)
  rw[hn,zH];have hp:0 < (n:Int):=by omega
  have hne:((n:Int)==0)=false:=AAJ.2 (by omega);exact⟨hp,AZ hne ⟨h.dn,hp,⟨by omega,h2⟩,hp,rfl⟩⟩
def jh:Gk:=fun p rest os=>match p,rest,os with
 | .dev d,[],[]=> .ask (N9 d) (.ret ⟨.tuple ⟨[At 21,int 0]⟩,.dev d,[.abs (.pack (.idx (EG d))) false]⟩)
 | _,_,_=> .fail
theorem UP {fs:List (FuncId × DO)} (hfs:CO Tryz.prog AI fs) {f:FuncId} {n:Nat} (he:entry Tryz.prog f=some (n,A9 Tryz.prog f [])) {q:Gk}
 (hrun:∀s rest os,(q s rest os).Uh fun x=>rest.length+1<=n/\Ak (Bp Tryz.prog AI fs) (20+(os.length+1)) (fun b=>20<=b/\b < 20+(os.length+1)) f (fun v H=>Db AI 20 (os.length+1) [true] ⟨x.v,[some (.abs (.pack x.nx) false)],x.news⟩ v H) (Em f (CM 0 (.pointer (some ⟨20,0,none⟩)::rest) .leaf) n (A9 Tryz.prog f []) (DH ⟨.leaf,20⟩ (.abs (.pack s) false::EH [true] 1 os)))):
 CY Tryz.prog AI f (Ai AI 20 [true] (CX 20 q)):=by
 refine BF hfs (by kernel_rfl) he (by kernel_rfl) fun argsc objs y hxr hro=>?_
 unfold CX at hxr;split at hxr
 ·rename_i b rest s ro os;cases hb:Nat.beq b 20
  ·simp only[hb,zC,GT.run]at hxr;cases hxr
  ·simp only[hb,y8]at hxr;have hb:=y9 hb;subst hb;have hr0:ro=false:=hro 0 _ rfl rfl;subst hr0;obtain⟨x,⟨g1,g2⟩,rfl⟩:=PT.Ku (hrun s rest os) hxr;exact⟨by simpa using g1,g2⟩
 ·cases hxr
theorem jI:CY Tryz.prog AI Ac (Ai AI 20 [true] (CX 20 jh)):=by
 refine UP YF.all (n:=BD Ac) (by kernel_rfl) fun s rest os=>?_
 unfold jh;split
 ·rename_i d;intro h;refine⟨VC (by kernel_rfl),Ak.mono (AX.Fh (fI h)) ?_⟩;rintro v H ⟨rfl,hos⟩;simp only[zb,AAY,zQ,AAF]at hos;obtain⟨g20,g27⟩:=hos;refine⟨[27],by simp,fun b hb=>?_,rfl,rfl,fun j b o hj ho=>?_,fun j o hj _ ho=>?_⟩
  ·simp at hb;subst hb;decide
  ·match j,hj,ho with
   | 0,hj,ho=>cases hj;cases ho;exact⟨_,rfl,g27⟩
   | j+1,hj,_=>cases hj
  ·have hj:j=0:=by have hj:j < 0+1:=hj;omega
   subst hj;cases ho
   exact⟨_,rfl,g20⟩
 ·trivial
structure lh (x:Cm) (used:Int->Prop) (c:Nat):Prop where
 key:∀p∈x.keys,∀e∈p.2,used e.1
 kl:x.keys.length<=c
 ll:∀p∈x.keys,p.2.length<=c
structure xe (ls:Aw) (o:Int):Prop where
 all:∀e∈ls,0<=e.2.2.2.2.1/\1<=e.2.2.2.2.2/\e.2.2.2.2.1+e.2.2.2.2.2<=o
theorem WT {l:Aw} {m:Nat} (h:m < l.length):DI l m∈l:=by
 unfold DI;rw[zK,zG h];exact AA8 h
theorem ab {ls:Aw} {o:Int} (h:xe ls o):J7 ls o=ls.length:=by
 show Xc (fun m=>decide (G8 ls o m < 0)) ls.length 0 ls.length=ls.length;refine ZP _ ls.length ls.length 0 ls.length (by omega) (za _) (zA _) fun m _ hm=>⟨fun _=>hm,fun _=>zE ?_⟩
 obtain⟨h0,h1,h2⟩:=h.all _ (WT hm);unfold G8 LP;have hlt:(DI ls m).2.2.2.2.1 < o:=by omega
 simp[hlt]
theorem nu {ls:Aw} {o z:Int} (h:xe ls o) (ho:o<=1000000):S4 ls o z=false:=by
 unfold S4;rw[ab h];unfold Z7;rw[zL (AAb ls.length),ABb,ABb,AAl,ABl]
 by_cases hl:(ls.length:Int) > 0
 ·obtain⟨h0,h1,h2⟩:=h.all _ (WT (l:=ls) (m:=ls.length - 1) (by omega));rw[wrap64 (by omega) (by omega),zL (show ¬(DI ls (ls.length - 1)).2.2.2.2.1+(DI ls (ls.length - 1)).2.2.2.2.2 > o from by omega),Bool.and_false]
 ·rw[zL hl,ABb]
theorem QC {q:Int} {a:As} {d:Bool} {s z:Int}:∀(l:Aw) (hv:Bool),(∀e∈l,e.1≠q)->Ke q a d s z l hv=some hv
 | [],_,_=>rfl
 | e::r,hv,h=>by
  have h1:(e.1==q)=false:=AAJ.2 (h e (AAD ..));unfold Ke;have hb:Qk q a d z e=false:=by unfold Qk;rw[h1];rfl
  have hs:PB q s e=false:=by unfold PB;rw[h1];rfl
  rw[hb,hs,zC,ABl];exact QC r hv fun x hx=>h x (z8 _ hx)
theorem lH {x:Cm} {used:Int->Prop} {c:Nat} (h:lh x used c) (a:As):(∀e∈Mz x a,used e.1)/\(Mz x a).length<=c:=by
 cases hh:Ie x a
 ·have:Mz x a=[]:=by unfold Mz;rw[hh];rfl
  rw[this];exact⟨fun e he=>(by cases he),za _⟩
 ·obtain⟨k,hk,_⟩:=jN hh;have hm:=zp hk;exact⟨fun e he=>h.key _ hm e he,h.ll _ hm⟩
theorem jj {l:Aw} {i:Nat} {e y:NQ} (h:y∈HF l i e):y∈l∨y=e:=by
 unfold HF at h;rcases List.mem_append.1 h with h | h
 ·exact .inl (ABE h)
 ·rcases List.mem_cons.1 h with h | h
  ·exact .inr h
  ·exact .inl (AAi h)
theorem sE {x:Cm} {used:Int->Prop} {c s:Nat} {q:Int} {a:As} {d:Bool} {o z:Int} (hx:lh x used c) (hc:c < 70000) (hs:s < x.AR.length) (hE:Mt q a d o z) (hq:¬used q) (hb:xe (C7 x s) o) (hsl:(C7 x s).length<=c):
 kF x (q,a,d,(s:Int),o,z)/\(fC x (q,a,d,(s:Int),o,z)).AR=x.AR.set s (C7 x s++[(q,a,d,(s:Int),o,z)])/\lh (fC x (q,a,d,(s:Int),o,z)) (fun t=>used t∨t=q) (c+1):=by
 obtain⟨u1,u2⟩:=lH hx a;have o1:o<=1000000:=by have:=hE.oz;have:=hE.z0;omega
 have hok:Lr x q a d s o z:=⟨hE,hs,by have:=hx.kl;omega,by omega,by omega⟩;have hne:∀e∈Mz x a,e.1≠q:=fun e he h=>hq (by rw[<-h];exact u1 e he)
 have hres:El x q a d s o z=0:=by
  unfold El ao;rw[QC _ _ hne,nu hb o1];rfl
 have hb0:(El x q a d s o z==0)=true:=by rw[hres];rfl
 have hX:fC x (q,a,d,(s:Int),o,z)=⟨Lq x q a d s o z,x.AR.set s (HF (C7 x s) (J7 (C7 x s) o) (q,a,d,(s:Int),o,z))⟩:=by
  show JO x q a d (Int.toNat (s:Int)) o z=_;rw[zH];unfold JO;rw[hb0,y8]
 refine⟨⟨⟨by rw[zH],by rw[zH];exact hok⟩,by rw[zH];exact hres⟩,?_,?_⟩
 ·rw[hX];show x.AR.set s _=_;rw[ab hb];unfold HF;rw[AAN,AB5]
 ·rw[hX];cases hh:Ie x a
  ·have hk:Lq x q a d s o z=x.keys.take (Ey x a)++((a,[(q,a,d,(s:Int),o,z)])::x.keys.drop (Ey x a)):=by unfold Lq;rw[hh];rfl
   refine⟨fun p hp e he=>?_,?_,fun p hp=>?_⟩
   ·rw[hk]at hp;rcases List.mem_append.1 hp with hp | hp
    ·exact .inl (hx.key p (ABE hp) e he)
    ·rcases List.mem_cons.1 hp with hp | hp
     ·subst hp;rw[zP]at he;rw[he];exact .inr rfl
     ·exact .inl (hx.key p (AAi hp) e he)
   ·show(Lq x q a d s o z).length<=_;have:=hx.kl;rw[hk,zM,zO,zr,zT];omega
   ·rw[hk]at hp;rcases List.mem_append.1 hp with hp | hp
    ·have:=hx.ll p (ABE hp);omega
    ·rcases List.mem_cons.1 hp with hp | hp
     ·subst hp;show 1<=c+1;omega
     ·have:=hx.ll p (AAi hp);omega
  ·have hk:Lq x q a d s o z=x.keys.set (Ey x a) ((x.keys.getD (Ey x a) (a,[])).1,HF (Mz x a) (PH (Mz x a).length (E5 (Mz x a) q s)) (q,a,d,(s:Int),o,z)):=by unfold Lq;rw[hh];rfl
   refine⟨fun p hp e he=>?_,?_,fun p hp=>?_⟩
   ·rw[hk]at hp;rcases ABB hp with hp | hp
    ·exact .inl (hx.key p hp e he)
    ·subst hp;rcases jj he with he | he
     ·exact .inl (u1 e he)
     ·rw[he];exact .inr rfl
   ·show(Lq x q a d s o z).length<=_;have:=hx.kl;rw[hk,zV];omega
   ·rw[hk]at hp;rcases ABB hp with hp | hp
    ·have:=hx.ll p hp;omega
    ·subst hp;show(HF _ _ _).length<=_;rw[NP aj];omega
theorem mW {r:C2} (h:r.ok):I1 r.a=0:=by
 unfold C2.ok DR at h;simp only[zB,ABZ]at h;exact h.1.2
theorem dA {r:C2} (h:r.ok) {off:Nat} (hb:off+r.size<=8192):Mt r.q r.a ((r.k:Int)==2) off r.size:=by
 have hF:=JH h;have b1:=hF.b1;have a1:=hF.a1;have hsz:r.size=16+r.a.size+r.b.size:=rfl;refine⟨mW h,hF.q0,hF.q1,zk _,by omega,?_,by omega,by omega⟩;rcases hF.hk with hk | ⟨hk,hb0⟩
 ·right;rw[hk];rfl
 ·left;omega
theorem fA {x:Cm} {s:Nat} (hs:s < x.AR.length) (l:Aw) (_K:List (As × Aw)) (y:Cm) (hy:y.AR=x.AR.set s l):C7 y s=l:=by
 unfold C7;rw[hy];exact Dp hs
theorem bT {s:Nat}:∀(rs:List C2) (x:Cm) (used:Int->Prop) (c off:Nat),lh x used c->c+rs.length < 70000->s < x.AR.length->(∀r∈rs,r.ok)->off+(B3 rs).length<=8192->(rs.map C2.q).Nodup->(∀r∈rs,¬used (r.q:Int))->xe (C7 x s) off->(C7 x s).length<=c->
 Zq x (D4 s off rs)/\(Nh x (D4 s off rs)).AR=x.AR.set s (C7 x s++D4 s off rs)/\lh (Nh x (D4 s off rs)) (fun t=>used t∨∃r∈rs,t=(r.q:Int)) (c+rs.length)
 | [],x,used,c,off,hx,_,hs,_,_,_,_,_,_=>by
  refine⟨trivial,?_,?_⟩
  ·show x.AR=x.AR.set s (C7 x s++[]);rw[AAP,KU (Jc hs)]
  ·exact⟨fun p hp e he=> .inl (hx.key p hp e he),hx.kl,hx.ll⟩
 | r::rs,x,used,c,off,hx,hc,hs,hok,hoff,hnd,hun,hbe,hsl=>by
  have hB:B3 (r::rs)=r.bytes++B3 rs:=rfl;rw[hB,zM,r.len]at hoff;rw[zr]at hc;have hr:=hok r (AAD ..);have hnd:=List.nodup_cons.1 (show(r.q::rs.map C2.q).Nodup from hnd);obtain⟨h1,h2,h3⟩:=sE hx (by omega) hs (dA hr (by omega)) (hun r (AAD ..)) hbe hsl;have e:D4 s off (r::rs)=((r.q:Int),r.a,(r.k:Int)==2,(s:Int),(off:Int),(r.size:Int))::D4 s (off+r.size) rs:=rfl;generalize hen:((r.q:Int),r.a,(r.k:Int)==2,(s:Int),(off:Int),(r.size:Int))=en at h1 h2 h3 e;have hsl2:C7 (fC x en) s=C7 x s++[en]:=fA hs _ [] _ h2;have hlen:(fC x en).AR.length=x.AR.length:=by rw[h2,zV]
  obtain⟨k1,k2,k3⟩:=bT rs (fC x en) (fun t=>used t∨t=(r.q:Int)) (c+1) (off+r.size) h3 (by omega) (by rw[hlen];exact hs) (fun y hy=>hok y (z8 _ hy)) (by omega) hnd.2 (fun y hy hu=>by
   rcases hu with hu | hu
   ·exact hun y (z8 _ hy) hu
   ·exact hnd.1 (List.mem_map.2 ⟨y,hy,by omega⟩)) (by
   rw[hsl2];refine⟨fun y hy=>?_⟩;rcases List.mem_append.1 hy with hy | hy
   ·obtain⟨q1,q2,q3⟩:=hbe.all y hy;exact⟨q1,q2,by omega⟩
   ·rw[zP]at hy;rw[hy,<-hen];have:=r.Xo;exact⟨zk _,by show(1:Int)<=(r.size:Int);omega,by show(off:Int)+(r.size:Int)<=_;omega⟩) (by rw[hsl2,zM];show _+1<=_;omega)
  rw[e];refine⟨⟨h1,k1⟩,?_,?_⟩
  ·show(Nh (fC x en) (D4 s (off+r.size) rs)).AR=_;rw[k2,h2,hsl2,ABF,zh];rfl
  ·refine⟨fun p hp y hy=>?_,?_,fun p hp=>?_⟩
   ·rcases k3.key p hp y hy with(h | h) | ⟨r2,h4,h5⟩
    ·exact .inl h
    ·exact .inr ⟨r,AAD ..,h⟩
    ·exact .inr ⟨r2,z8 _ h4,h5⟩
   ·have:=k3.kl;show(Nh (fC x en) (D4 s (off+r.size) rs)).keys.length<=_;rw[zr];omega
   ·have:=k3.ll p hp;rw[zr];omega
def wD:Stop:=⟨Aq,1,2,21,[20],[0,1,9,10]⟩
def vp:FV:=[(BG,[5])]
def yN:AP:= .loop ⟨.ready,none,BG,EZ [(5,At 24)],BD BG,#[15,16],A9 Tryz.prog BG [1,1,1,0,1,0,0],A9 Tryz.prog BG [1,1,1,0,1,0,1],22⟩
def sH (d:Ab) (n i a:Int):BT:=
 ⟨⟨Aq,EZ [(0,.func (.yield 23) ⟨[]⟩ ⟨[]⟩),(1,At 21),(9,int n),(10,int i)],BD Aq,[.code (A9 Tryz.prog Aq [1,0,0]),.inLoop (A9 Tryz.prog Aq [1,0,0]),.inBlock 0],[],false,.normal,none⟩,
  [⟨BG,EZ [(5,At 24)],BD BG,[.inRangeFunc 23,.inBlock 0,.code (A9 Tryz.prog BG [1,1,1,1])],[⟨.collected 22,⟨[]⟩⟩],false,.normal,none⟩],
  ((((hp [.abs (.pack (.dev d)) false]).alloc (.cells [At 20] 0 false)).alloc (.deferred (some []))).alloc yN).alloc (.cells [int a] 0 false)⟩
theorem sX (d:Ab) (Q:Bm) (R:Bz):Iy Yr (Ax pR) [] BG [20] wD vp Q R 900 (st BG [At 20] (hp [.abs (.pack (.dev d)) false]))=(
 (0 < Ab.AR d)/\(bif Ab.AR d==0 then(Q (.tuple ⟨[(int 0),(int 1)]⟩) [some (.abs (Ct.pack (PL.nx { v:=int (Ab.AR d),nx:=Pk.dev d,news:=[] })) false)])else((d.5)=(false))/\(0 < Ab.AR d)/\(R (sH d (Ab.AR d) 0 0)))):=by kernel_rfl
theorem qe (d:Ab) (n i a:Int) (Q:Bm) (R:Bz):Iy Yr (Ax pR) [] BG [20] wD vp Q R 900 (sH d n i a)=(
 let b:=IntKind.wrap .i64 (i+1);(bif decide (i < n)then(Ab.down d=false/\Ba (Ab.BB d) i=false)/\(bif A8 d i==0 then(R (sH d n b a))else((Bool.rec (bif Ba (Ab.BB d) i then false else !Ij (CV d i) 0 (A8 d i)) false (Ab.down d))=(true))/\(R (sH d n b (IntKind.wrap .i64 (a+Int.ofNat (Ed d i 0 (A8 d i)).length)))))else(Q (.tuple ⟨[(int a),(int 0)]⟩) [some (.abs (Ct.pack (Pk.dev d)) false)]))):=by kernel_rfl
def Ql (d:Ab) (i:Int):Int:=bif A8 d i==0 then 0 else((Ed d i 0 (A8 d i)).length:Int)
structure qb (d:Ab) (i:Int):Prop where
 bad:Ba d.BB i=false
 rd:(A8 d i==0)=false->Kj d i 0 (A8 d i)=true
 le:(Ed d i 0 (A8 d i)).length<=8192
structure kR (d:Ab):Prop where
 dn:d.down=false
 s1:2<=d.AR
 s2:d.AR<=32
 all:∀i:Nat,(i:Int) < d.AR->qb d i
def jm (d:Ab):Nat->Nat->Int->Int
 | 0,_,a=>a
 | k+1,i,a=>jm d k (i+1) (a+Ql d (i:Nat))
def gO (d:Ab):Int:=jm d d.AR.toNat 0 0
def qO (d:Ab) (n:Int) (v:Value) (H:AA):Prop:=v= .tuple ⟨[int n,int 0]⟩/\[20].map H.get=[some (.abs (.pack (.dev d)) false)]
theorem nY {d:Ab} {n:Nat} (hdn:d.down=false) (hn:n<=32) (hall:∀i:Nat,i < n->qb d i):∀(k i:Nat) (a:Int),n - i=k->i<=n->0<=a->a<=8192 * i->
 AX Yr 21 BG (qO d (jm d k i a)) (sH d (n:Nat) (i:Nat) a):=by
 intro k;induction k with
 | zero=>
  intro i a hk hi h0 h1;refine Bq YF.pf [] [20] wD vp (by kernel_rfl) (show 21<=21 from zA _) (fun v os=>v= .tuple ⟨[int a,int 0]⟩/\os=[some (.abs (.pack (.dev d)) false)]) (fun _=>False) (fun v H hq=>?_) (fun c h=>h.elim) (n:=900) ?_
  ·obtain⟨rfl,hos⟩:=hq;exact⟨rfl,hos⟩
  ·rw[qe];exact AZ (zL (by omega)) ⟨rfl,rfl⟩
 | succ k ih=>
  intro i a hk hi h0 h1;have hw:IntKind.wrap .i64 ((i:Int)+1)=((i+1:Nat):Int):=by rw[wrap64 (by omega) (by omega)];rfl
  have h:=hall i (by omega);have hle:=h.le;have hlen:0<=Ql d (i:Nat)/\Ql d (i:Nat)<=8192:=by
   unfold Ql;cases (A8 d (i:Nat)==0)
   ·exact⟨zk _,by show((Ed d (i:Nat) 0 (A8 d (i:Nat))).length:Int)<=8192;omega⟩
   ·exact⟨AAv _,by show(0:Int)<=8192;decide⟩
  refine Bq YF.pf [] [20] wD vp (by kernel_rfl) (show 21<=21 from zA _) (fun _ _=>False) (fun c=>c=sH d (n:Nat) ((i+1:Nat):Int) (a+Ql d (i:Nat))) (fun v H h=>h.elim) (fun c hc=>?_) (n:=900) ?_
  ·rw[hc];exact ih (i+1) _ (by omega) (by omega) (by omega) (by omega)
  ·rw[qe];refine AB (zE (by omega)) ⟨⟨hdn,h.bad⟩,?_⟩;cases h2:(A8 d (i:Nat)==0)
   ·refine AZ rfl ⟨ad _ _ (h.rd h2),?_⟩;rw[hw];unfold Ql;rw[h2,zC];have hb:(i:Int) < 32:=by omega
    have e1:IntKind.wrap .i64 (a+Int.ofNat (Ed d (i:Nat) 0 (A8 d (i:Nat))).length)=a+((Ed d (i:Nat) 0 (A8 d (i:Nat))).length:Int):=wrap64 (by show _<=a+((Ed d (i:Nat) 0 (A8 d (i:Nat))).length:Int);omega) (by show a+((Ed d (i:Nat) 0 (A8 d (i:Nat))).length:Int)<=_;omega);rw[e1]
   ·refine AB rfl ?_;rw[hw];unfold Ql;rw[h2,y8,Int.add_zero]
theorem fj {d:Ab} (h:kR d):AX Yr 21 BG (qO d (gO d)) (st BG [At 20] (hp [.abs (.pack (.dev d)) false])):=by
 obtain⟨n,hn⟩:∃n:Nat,d.AR=(n:Int):=⟨d.AR.toNat,by have:=h.s1;omega⟩
 have h1:=h.s1;have h2:=h.s2;have hall:=h.all;rw[hn]at h1 h2;refine Bq YF.pf [] [20] wD vp (by kernel_rfl) (show 21<=21 from zA _) (fun _ _=>False) (fun c=>c=sH d (n:Nat) ((0:Nat):Int) 0) (fun v H h=>h.elim) (fun c hc=>?_) (n:=900) ?_
 ·rw[hc];have:=nY (d:=d) (n:=n) h.dn (by omega) (fun i hi=>hall i (by rw[hn];omega)) n 0 0 rfl (za _) (AAv _) (by decide);unfold gO;rw[hn,zH];exact this
 ·rw[sX];rw[hn];have hp:0 < (n:Int):=by omega
  have hne:((n:Int)==0)=false:=AAJ.2 (by omega);exact⟨hp,AZ hne ⟨h.dn,hp,rfl⟩⟩
def ZK:Gk:=fun p rest os=>match p,rest,os with
 | .dev d,[],[]=> .ask (kR d) (.ret ⟨.tuple ⟨[int (gO d),int 0]⟩,.dev d,[]⟩)
 | _,_,_=> .fail
theorem fp:CY Tryz.prog AI BG (Ai AI 20 [true] (CX 20 ZK)):=by
 refine UP YF.all (n:=BD BG) (by kernel_rfl) fun s rest os=>?_
 unfold ZK;split
 ·rename_i d;intro h;refine⟨VC (by kernel_rfl),Ak.mono (AX.Fh (fj h)) ?_⟩;rintro v H ⟨rfl,hos⟩;simp only[zb,AAY,zQ,AAF]at hos;refine⟨[],zx,fun b hb=>(by cases hb),rfl,rfl,fun j b o hj=>(by cases hj),fun j o hj _ ho=>?_⟩;have hj:j=0:=by have hj:j < 0+1:=hj;omega
  subst hj;cases ho
  exact⟨_,rfl,hos⟩
 ·trivial
def FU (d:Ab) (i:Int):Int:=IntKind.wrap .i64 (((CV d i).b.length:Int) - (CV d i).Ej)
def pG:Gk:=fun p rest os=>match p,rest,os with
 | .dev d,[.int .i64 i],[]=> .ask (d.down=false/\Ba d.BB i=false) (.ret ⟨DE (FU d i) 0,.dev d,[]⟩)
 | _,_,_=> .fail
theorem Vs:∀a o x,(CX 20 pG a o).run=some x->(CX 20 (HK fun m=>IntKind.wrap .i64 ((m.b.length:Int) - m.Ej)) a o).run=some x:=IU fun s rest os x hx=>by
 unfold pG at hx;unfold HK;split at hx
 ·rename_i d i;simp only[PT.gt,GT.run]at hx ⊢;split at hx
  ·rename_i h;rw[Nj h.1 h.2];exact hx
  ·cases hx
 ·simp only[PT.gt,GT.run]at hx;cases hx
def vI:List GA:=[(B0,Ai AI 20 [true] (CX 20 (HK fun m=>IntKind.wrap .i64 ((m.b.length:Int) - m.Ej))),Cs AI 20 [true] (CX 20 pG))]
theorem qv:Ci vI:= .OG OR Vs .nil
abbrev oV:Ctx:=Bp Tryz.prog AI (Cv vI)
def WE:Stop:=⟨108,1,3,23,[20,21,22],[0,1,7,8]⟩
def vH:Stop:=⟨50,0,3,23,[20,21,22],[0,1,5,6]⟩
def wg:FV:=[(50,[0,1])]
abbrev wc (b:Nat):Value:= .func (.func Fp) ⟨[]⟩ ⟨[At b]⟩
abbrev xb (d:Ab) (l:Ad):AA:=hp [.vec [.int .i64] l false,.cells [At 22] 0 false,.abs (.pack (.dev d)) false]
def cl (d:Ab) (l:Ad) (m:Nat) (i:Int):BT:=
 ⟨⟨108,EZ [(0,Ao 20 m),(1,wc 21),(7,int m),(8,int i)],BD 108,[.code (A9 Tryz.prog 108 [1,0,1,0,0]),.inLoop (A9 Tryz.prog 108 [1,0,1,0,0]),.inBlock 0,.code (A9 Tryz.prog 108 [1,1])],[],false,.normal,none⟩,
  [⟨50,EZ [(0,Ao 20 m),(1,wc 21)],BD 50,[GU (A9 Tryz.prog 50 [1,0]) 2,.code (A9 Tryz.prog 50 [1,1])],[],false,.normal,none⟩],xb d l⟩
def pb (d:Ab) (l:Ad) (m:Nat) (k j:Int):BT:=
 ⟨⟨50,EZ [(0,Ao 20 m),(1,wc 21),(5,int k),(6,int j)],BD 50,[.code (A9 Tryz.prog 50 [1,1,1,0,1,0,0]),.inLoop (A9 Tryz.prog 50 [1,1,1,0,1,0,0]),.inBlock 0,.code (A9 Tryz.prog 50 [1,1,1,1])],[],false,.normal,none⟩,[],xb d l⟩
theorem uW (d:Ab) (l:Ad) (m:Nat) (Q:Bm) (R:Bz):Iy oV (Ax vI) [] 50 [20,21,22] WE wg Q R 900 (st 50 [Ao 20 m,wc 21] (xb d l))=(
 (R (cl d l m 0))):=by kernel_rfl
theorem X2 (d:Ab) (l:Ad) (m:Nat) (i:Int) (Q:Bm) (R R2:Bz):NH oV (Ax vI) [] 50 [20,21,22] WE (fun c=>WE.here c) vH (fun c=>vH.here c) wg Q R R2 900 (cl d l m i)=(
 let f:AP:= .cells [(At 22)] 0 false;let e:=IntKind.wrap .i64 (i+1);let b:AP:= .vec ([SK.int IntKind.i64]) l false;let a:=List.getD l (0+i.toNat) (EK.BL [SK.int IntKind.i64]);(bif decide (i < (m:Int))then(bif decide (0<=i)&&Nat.blt i.toNat m then(bif Nat.blt (0+i.toNat) l.length then(Ab.down d=false/\Ba (Ab.BB d) a=false)/\(bif FU d a==0 then(bif i== -1 then(Q (Ao 20 m) [some b,some f,some (.abs (Ct.pack (PL.nx { v:=DE (FU d a) 0,nx:=Pk.dev d,news:=[] })) false),some b])else(R2 (pb d l m i e)))else(R (cl d l m e)))else False)else False)else(Q (Ao 20 m) [some b,some f,some (.abs (Ct.pack (Pk.dev d)) false),some b]))):=by kernel_rfl
theorem gB (d:Ab) (l:Ad) (m:Nat) (k j:Int) (Q:Bm) (R R2:Bz):NH oV (Ax vI) [] 50 [20,21,22] WE (fun c=>WE.here c) vH (fun c=>vH.here c) wg Q R R2 900 (pb d l m k j)=(
 let n:AP:= .cells [(At 22)] 0 false;let i:=Ao 20 (k.toNat - 0);let h:=IntKind.wrap .i64 (j+1);let g:AP:= .abs (Ct.pack (Pk.dev d)) false;let f:AP:= .vec ([SK.int IntKind.i64]) l false;let e:=(Int.ofNat m).toNat - k.toNat;let b:=List.getD l (0+j.toNat) (EK.BL [SK.int IntKind.i64]);let a:AP:= .vec ([SK.int IntKind.i64]) (List.take (0+k.toNat) l++(List.replicate e 0++List.drop (0+k.toNat+e) l)) false;(bif decide (j < Int.ofNat m)then(bif decide (0<=j)&&Nat.blt j.toNat m then(bif Nat.blt (0+j.toNat) l.length then(Ab.down d=false/\Ba (Ab.BB d) b=false)/\(bif FU d b==0 then(R2 (pb d l m k h))else(bif decide (0<=k)&&Nat.blt k.toNat m then(bif Nat.blt (0+k.toNat) l.length then(R2 (pb d (List.set l (0+k.toNat) b) m (IntKind.wrap .i64 (k+1)) h))else False)else False))else False)else False)else(bif decide (0<=Int.ofNat m)&&Nat.ble (Int.ofNat m).toNat m&&decide (0<=k)&&Nat.ble k.toNat (Int.ofNat m).toNat then(bif Nat.beq e 0 then(bif decide (0<=k)&&Nat.ble k.toNat m&&decide (0<=0)&&Nat.ble 0 k.toNat then(Q i [some f,some n,some g,some f])else False)else(bif Nat.ble (0+k.toNat+e) l.length then(bif decide (0<=k)&&Nat.ble k.toNat m&&decide (0<=0)&&Nat.ble 0 k.toNat then(Q i [some a,some n,some g,some a])else False)else False))else False))):=by kernel_rfl
def Dm (d:Ab) (i:Int):Bool:= !(FU d i==0)
def JP (d:Ab) (l:Ad):Ad:=l.filter (Dm d)++List.replicate (l.length - (l.filter (Dm d)).length) 0
structure ko (d:Ab) (l:Ad):Prop where
 dn:d.down=false
 ok:∀i∈l,Ba d.BB i=false
 ln:l.length < 100000
def iD (d:Ab) (l:Ad) (v:Value) (H:AA):Prop:=v=Ao 20 (l.filter (Dm d)).length/\[20,21,22].map H.get=[some (.vec [.int .i64] (JP d l) false),some (.cells [At 22] 0 false),some (.abs (.pack (.dev d)) false)]
theorem TG {Q:Bm} {R R2:Bz} {Q':Ih} {c:BT} (hQ:∀v H,Q v (([20,21,22]++Au 4 v).map H.get)->Q' v H) (hR:∀c,R c->AX oV 23 50 Q' c) (hR2:∀c,R2 c->AX oV 23 50 Q' c)
 (h:NH oV (Ax vI) [] 50 [20,21,22] WE (fun c=>WE.here c) vH (fun c=>vH.here c) wg Q R R2 900 c):AX oV 23 50 Q' c:=
 IH qv.pf (M:=23) (by kernel_rfl) (by decide) (by decide) hQ hR hR2 900 _ h
def GP (l:Ad) (j:Nat):Int:=List.getD l j (EK.BL [.int .i64])
theorem IP {l:Ad} {j:Nat} (h:j < l.length):GP l j=l[j]:=by
 unfold GP;rw[zK,zG h];rfl
theorem Mr {l:Ad} {j:Nat} (h:j < l.length):GP l j∈l:=by
 rw[IP h];exact AA8 h
theorem F5 {f:Int->Bool} {l:Ad} {j:Nat} (h:j < l.length):(l.take (j+1)).filter f=(l.take j).filter f++(if f (GP l j)then [GP l j]else []):=by
 rw[AAy h,List.filter_append,IP h]
 congr 1
 cases hf:f l[j]<;>simp[hf]
theorem ld {d:Ab} {l:Ad} (h:ko d l):∀(n j:Nat) (r:Ad),l.length - j=n->j<=l.length->r.length=l.length->r.take ((l.take j).filter (Dm d)).length=(l.take j).filter (Dm d)->r.drop j=l.drop j->((l.take j).filter (Dm d)).length < j->
 AX oV 23 50 (iD d l) (pb d r l.length (((l.take j).filter (Dm d)).length:Nat) (j:Nat)):=by
 have hln:=h.ln;intro n;induction n with
 | zero=>
  intro j r hn hj hr ht hd hlt;have e:l.take j=l:=zI (by omega);rw[e]at ht hlt ⊢;have hk:(l.filter (Dm d)).length < l.length:=by omega
  refine TG (Q:=fun v os=>v=Ao 20 (l.filter (Dm d)).length/\∃q,os=[some (.vec [.int .i64] (JP d l) false),some (.cells [At 22] 0 false),some (.abs (.pack (.dev d)) false),q]) (R:=fun _=>False) (R2:=fun _=>False) (fun v H hq=>?_) (fun c h=>h.elim) (fun c h=>h.elim) ?_
  ·obtain⟨rfl,q,hos⟩:=hq;refine⟨rfl,?_⟩;have hos:H.get 20::H.get 21::H.get 22::[H.get 20]=_:=hos;simp only[zQ,AAF]at hos;obtain⟨g1,g2,g3,_⟩:=hos;simp only[zb,AAY,g1,g2,g3]
  ·rw[gB];(conv=>zeta)
   have en:Int.toNat (Int.ofNat l.length)=l.length:=rfl;generalize hkk:(l.filter (Dm d)).length=k at ht hk ⊢;have eres:JP d l=r.take k++(List.replicate (l.length - k) 0++r.drop (k+(l.length - k))):=by
    unfold JP;rw[hkk,ht,AAQ (by omega),AAP]
   have c1:(decide ((0:Int)<=Int.ofNat l.length)&&Nat.ble l.length l.length&&decide ((0:Int)<=(k:Int))&&Nat.ble k l.length)=true:=by
    rw[y7 (zA _),y7 (by omega),zE (zk k),zE (show(0:Int)<=Int.ofNat l.length from zk _)];rfl
   have c2:(decide ((0:Int)<=(k:Int))&&Nat.ble k l.length&&decide ((0:Int)<=0)&&Nat.ble 0 k)=true:=by
    rw[y7 (za _),y7 (by omega),zE (zk k)];rfl
   rw[en];simp only[zH,zN,ABD];refine AZ (zL (by show ¬(j:Int) < (l.length:Int);omega)) (AB c1 ?_);have hb:Nat.beq (l.length - k) 0=false:=by
    cases h:Nat.beq (l.length - k) 0
    ·rfl
    ·have:=y9 h;omega
   refine AZ hb (AB (y7 (by omega)) (AB c2 ⟨by first | rfl | trivial,?_⟩));rw[<-eres];exact⟨_,rfl⟩
 | succ n ih=>
  intro j r hn hj hr ht hd hlt;have hjl:j < l.length:=by omega
  have hrj:GP r j=GP l j:=by
   rw[IP (by omega),IP hjl];have:=congrArg (fun q=>q[0]?) hd;simp only[AAE,AAg]at this;rw[zG (by omega),zG hjl]at this;exact ABC this
  have hw:∀t:Nat,t < 100001->IntKind.wrap .i64 ((t:Int)+1)=((t+1:Nat):Int):=fun t ht=>by rw[wrap64 (by omega) (by omega)];rfl
  have hd1:r.drop (j+1)=l.drop (j+1):=by
   have:=congrArg (List.drop 1) hd
   rwa [AAx,AAx]at this
  cases hu:(FU d (GP l j)==0)
  ·have hf:Dm d (GP l j)=true:=by unfold Dm;rw[hu];rfl
   have hk:((l.take (j+1)).filter (Dm d)).length=((l.take j).filter (Dm d)).length+1:=by rw[F5 hjl,hf];simp
   refine TG (Q:=fun _ _=>False) (R:=fun _=>False) (R2:=fun c=>c=pb d (r.set ((l.take j).filter (Dm d)).length (GP l j)) l.length (((l.take j).filter (Dm d)).length+1:Nat) ((j+1:Nat):Int)) (fun v H hq=>hq.elim) (fun c h=>h.elim) (fun c hc=>?_) ?_
   ·rw[hc];have:=ih (j+1) (r.set ((l.take j).filter (Dm d)).length (GP l j)) (by omega) (by omega) (by rw[zV];exact hr) ?_ ?_ (by rw[hk];omega)
    ·rw[hk]at this;exact this
    ·rw[hk,F5 hjl,hf];rw[AAy (by rw[zV];omega),List.take_set_of_le (zA _),ht];simp
    ·rw[List.drop_set_of_lt (by omega)];exact hd1
   ·rw[gB];(conv=>zeta)
    have e0:List.getD r (0+Int.toNat (j:Int)) (EK.BL [.int .i64])=GP l j:=by rw[zH,zN];exact hrj
    rw[e0];simp only[zH,zN];refine AB (zE (Int.ofNat_lt.2 hjl)) (AB (EI hjl) (AB (Gc (by omega)) ⟨⟨h.dn,h.ok _ (Mr hjl)⟩,AZ hu (AB (EI (by omega)) (AB (Gc (by omega)) ?_))⟩));rw[hw _ (by omega),hw _ (by omega)]
  ·have hf:Dm d (GP l j)=false:=by unfold Dm;rw[hu];rfl
   have hk:(l.take (j+1)).filter (Dm d)=(l.take j).filter (Dm d):=by rw[F5 hjl,hf];simp
   refine TG (Q:=fun _ _=>False) (R:=fun _=>False) (R2:=fun c=>c=pb d r l.length (((l.take j).filter (Dm d)).length:Nat) ((j+1:Nat):Int)) (fun v H hq=>hq.elim) (fun c h=>h.elim) (fun c hc=>?_) ?_
   ·rw[hc];have:=ih (j+1) r (by omega) (by omega) hr (by rw[hk];exact ht) hd1 (by rw[hk];omega);rw[hk]at this;exact this
   ·rw[gB];(conv=>zeta)
    have e0:List.getD r (0+Int.toNat (j:Int)) (EK.BL [.int .i64])=GP l j:=by rw[zH,zN];exact hrj
    rw[e0];simp only[zH,zN];refine AB (zE (Int.ofNat_lt.2 hjl)) (AB (EI hjl) (AB (Gc (by omega)) ⟨⟨h.dn,h.ok _ (Mr hjl)⟩,AB hu ?_⟩));rw[hw _ (by omega)]
theorem ka {d:Ab} {l:Ad} (h:ko d l):∀(n i:Nat),l.length - i=n->i<=l.length->(l.take i).filter (Dm d)=l.take i->
 AX oV 23 50 (iD d l) (cl d l l.length (i:Nat)):=by
 have hln:=h.ln;intro n;induction n with
 | zero=>
  intro i hn hi hf;have e:l.take i=l:=zI (by omega);rw[e]at hf;refine TG (Q:=fun v os=>v=Ao 20 l.length/\∃q,os=[some (.vec [.int .i64] l false),some (.cells [At 22] 0 false),some (.abs (.pack (.dev d)) false),q]) (R:=fun _=>False) (R2:=fun _=>False) (fun v H hq=>?_) (fun c h=>h.elim) (fun c h=>h.elim) ?_
  ·obtain⟨rfl,q,hos⟩:=hq;have eres:JP d l=l:=by
    unfold JP;rw[hf,AAH];simp
   refine⟨by rw[hf],?_⟩;rw[eres];have hos:H.get 20::H.get 21::H.get 22::[H.get 20]=_:=hos;simp only[zQ,AAF]at hos;obtain⟨g1,g2,g3,_⟩:=hos;simp only[zb,AAY,g1,g2,g3]
  ·rw[X2];exact AZ (zL (by omega)) ⟨rfl,_,rfl⟩
 | succ n ih=>
  intro i hn hi hf;have hil:i < l.length:=by omega
  have hw:IntKind.wrap .i64 ((i:Int)+1)=((i+1:Nat):Int):=by rw[wrap64 (by omega) (by omega)];rfl
  have e0:List.getD l (0+Int.toNat (i:Int)) (EK.BL [.int .i64])=GP l i:=by rw[zH,zN];rfl
  have hm1:((i:Int)== -1)=false:=AAJ.2 (by omega);cases hu:(FU d (GP l i)==0)
  ·have hb:Dm d (GP l i)=true:=by unfold Dm;rw[hu];rfl
   refine TG (Q:=fun _ _=>False) (R:=fun c=>c=cl d l l.length ((i+1:Nat):Int)) (R2:=fun _=>False) (fun v H hq=>hq.elim) (fun c hc=>?_) (fun c h=>h.elim) ?_
   ·rw[hc];refine ih (i+1) (by omega) (by omega) ?_;rw[F5 hil,hb,hf,AAy hil,IP hil];rfl
   ·rw[X2];(conv=>zeta)
    rw[e0];simp only[zH,zN];refine AB (zE (by omega)) (AB (EI hil) (AB (Gc hil) ⟨⟨h.dn,h.ok _ (Mr hil)⟩,AZ hu ?_⟩));rw[hw]
  ·have hb:Dm d (GP l i)=false:=by unfold Dm;rw[hu];rfl
   have hlen:((l.take (i+1)).filter (Dm d)).length=i:=by
    rw[F5 hil,hb,hf];simp;omega
   refine TG (Q:=fun _ _=>False) (R:=fun _=>False) (R2:=fun c=>c=pb d l l.length (i:Nat) ((i+1:Nat):Int)) (fun v H hq=>hq.elim) (fun c h=>h.elim) (fun c hc=>?_) ?_
   ·rw[hc];have:=ld h _ (i+1) l rfl (by omega) rfl ?_ rfl (by rw[hlen];omega)
    ·rw[hlen]at this;exact this
    ·rw[hlen,F5 hil,hb,hf];simp
   ·rw[X2];(conv=>zeta)
    rw[e0];simp only[zH,zN];refine AB (zE (by omega)) (AB (EI hil) (AB (Gc hil) ⟨⟨h.dn,h.ok _ (Mr hil)⟩,AB hu (AZ hm1 ?_)⟩));rw[hw]
def x7 (args:AL) (objs:BN):GT:=match args,objs with
 | [.slice (some ⟨20,0,some 0⟩) m 18446744073709551616,.func (.func g) ⟨[]⟩ ⟨[.pointer (some ⟨21,0,none⟩)]⟩],[.vec [.int .i64] l _,.cells [.pointer (some ⟨22,0,none⟩)] 0 _,.abs (.pack (.dev d)) _]=> .ask ((m=l.length/\g=Fp)/\ko d l) (.ret ⟨Ao 20 (l.filter (Dm d)).length,[some (.vec [.int .i64] (JP d l) false),some (.cells [At 22] 0 false),some (.abs (.pack (.dev d)) false)],[]⟩)
 | _,_=> .fail
theorem sQ:CY Tryz.prog AI 50 (Ai AI 20 [true,true,true] x7):=by
 refine BF qv.all (by kernel_rfl) (n:=BD 50) (by kernel_rfl) (by kernel_rfl) fun argsc objs x hx hro=>?_
 unfold x7 at hx;split at hx
 ·rename_i m g l r0 r1 d r2;have h0:r0=false:=hro 0 _ rfl rfl;have h1:r1=false:=hro 1 _ rfl rfl;have h2:r2=false:=hro 2 _ rfl rfl;subst h0;subst h1;subst h2
  simp only[GT.run]at hx;split at hx
  ·rename_i hp0;cases hx
   obtain⟨⟨rfl,rfl⟩,hok⟩:=hp0;refine⟨VC (by kernel_rfl),Ak.mono (AX.Fh (Q:=iD d l) ?_) ?_⟩
   ·refine Bq qv.pf [] [20,21,22] WE wg (by kernel_rfl) (show 23<=23 from zA _) (fun _ _=>False) (fun c=>c=cl d l l.length ((0:Nat):Int)) (fun v H h=>h.elim) (fun c hc=>?_) (n:=900) (c:=st 50 [Ao 20 l.length,wc 21] (xb d l)) ?_
    ·rw[hc];exact ka hok _ 0 rfl (za _) rfl
    ·rw[uW];rfl
   ·rintro v H ⟨rfl,hos⟩;simp only[zb,AAY,zQ,AAF]at hos;obtain⟨g20,g21,g22⟩:=hos;refine⟨[],zx,fun b hb=>(by cases hb),rfl,rfl,fun j b o hj=>(by cases hj),fun j o hj hm ho=>?_⟩
    match j,hj,ho with
    | 0,_,ho=>cases ho;exact⟨_,rfl,g20⟩
    | 1,_,ho=>cases ho;exact⟨_,rfl,g21⟩
    | 2,_,ho=>cases ho;exact⟨_,rfl,g22⟩
  ·cases hx
 ·cases hx
structure je (d:Ab) (rs:Nat->List C2):Prop where
 sl:d.AR=5
 dn:d.down=false
 len:d.BB.length=7
 pre:∀s:Nat,s < 5->∃n,n<=(B3 (rs s)).length/\(CV d (s:Nat)).b=(B3 (rs s)).take n
 sz:∀s:Nat,s < 5->(B3 (rs s)).length<=600
 ok:∀s:Nat,s < 5->∀r∈rs s,r.ok
 nd:∀s:Nat,s < 5->((rs s).map C2.q).Nodup
 DG:∀s s':Nat,s < 5->s' < 5->s≠s'->∀r∈rs s,∀r'∈rs s',r.q≠r'.q
 qk:∀s:Nat,s < 5->(rs s).length<=1000
theorem Fe {L:List AS} {i n:Nat} (h:L.length=n) (hi:i < n):Ba L (i:Nat)=false:=by
 unfold Ba;rw[zL (by omega),zL (by omega)];rfl
theorem Nt (d:Ab) (i:Int):Ed d i 0 (A8 d i)=(CV d i).b:=by
 unfold Ed Us A8;rw[zH];show List.take _ (List.drop 0 _)=_;rw[zc,AAN]
theorem Rv {d:Ab} {i:Nat} (hd:d.down=false) (hb:Ba d.BB (i:Nat)=false):Kj d (i:Nat) 0 (A8 d (i:Nat))=true:=by
 unfold Kj;rw[hd,hb];unfold Ij A8;rw[zL (by omega),zL (by omega),zL (by omega),zL (by omega)];rfl
section
variable {d:Ab} {rs:Nat->List C2}
def HM (d:Ab) (rs:Nat->List C2) (s:Nat):List C2:=Q4 (CV d (s:Nat)).b.length 0 (rs s)
theorem jL (d:Ab) (i:Int):(A8 d i==0)=decide ((CV d i).b.length=0):=by
 unfold A8;cases h:decide ((CV d i).b.length=0)
 ·have:=ABv h;exact AAJ.2 (by omega)
 ·have:=AAM h;rw[this];rfl
theorem lC (l:List C2):Q4 0 0 l=[]:=by
 cases l with
 | nil=>rfl
 | cons r l=>
  have:=r.Xo;unfold Q4;rw[zF (by omega)]
theorem eB (h:je d rs) {s:Nat} (hs:s < 5):Gp d (s:Nat)=D4 (s:Nat) 0 (HM d rs s):=by
 obtain⟨n,hn,hb⟩:=h.pre s hs;unfold Gp HM;rw[jL];cases hz:decide ((CV d (s:Nat)).b.length=0)
 ·rw[zC];unfold T8;rw[Nt];generalize (CV d (s:Nat)).b=l at hb;have hl:l.length=n:=by rw[hb,zO];omega
  refine Ss (rs s) _ 0 (h.ok s hs) (za _) (by omega) (by omega) ?_;intro t ht;rw[zN,ABD,hl,<-hb]
 ·have:=AAM hz;rw[y8,this,lC];rfl
theorem lh.imp {x:Cm} {u u':Int->Prop} {c:Nat} (h:lh x u c) (hu:∀t,u t->u' t):lh x u' c:=⟨fun p hp e he=>hu _ (h.key p hp e he),h.kl,h.ll⟩
theorem aO (h:je d rs):∀(k i:Nat) (x:Cm) (c:Nat),k+i=5->lh x (fun t=>∃s,s < i/\∃r∈rs s,t=(r.q:Int)) c->c<=1000 * i->x.AR.length=5->(∀s,i<=s->s < 5->C7 x s=[])->
 Zz d k i x/\(Mh d k i x).AR.length=5/\(∀s,s < i->C7 (Mh d k i x) s=C7 x s)/\∀s,i<=s->s < 5->C7 (Mh d k i x) s=D4 (s:Nat) 0 (HM d rs s)
 | 0,i,x,c,hk,_,_,hl,_=>⟨trivial,hl,fun _ _=>rfl,fun s h1 h2=>absurd h1 (by omega)⟩
 | k+1,i,x,c,hk,hx,hc,hl,he=>by
  have hi:i < 5:=by omega
  have hpre:HM d rs i <+: rs i:=bG (rs i) 0;have hsub:∀r∈HM d rs i,r∈rs i:=fun r hr=>hpre.subset hr
  have hlen:=hpre.length_le;have hcn:=h.qk i hi;have hemp:=he i (zA _) hi;have hsz:(B3 (HM d rs i)).length<=600:=by
   obtain⟨t,ht⟩:=hpre;have:B3 (rs i)=B3 (HM d rs i)++B3 t:=by rw[<-ht];unfold B3;rw[ABr]
   have:=congrArg List.length this;rw[zM]at this;have:=h.sz i hi;omega
  obtain⟨a1,a2,a3⟩:=bT (s:=i) (HM d rs i) x _ c 0 hx (by omega) (by omega) (fun r hr=>h.ok i hi r (hsub r hr)) (by omega) (List.Nodup.sublist (hpre.sublist.map _) (h.nd i hi)) (fun r hr hu=>by
   obtain⟨s,hs,r',hr',e⟩:=hu;exact h.DG i s hi (by omega) (by omega) r (hsub r hr) r' hr' (by omega)) (by rw[hemp];exact⟨fun e he=>(by cases he)⟩) (by rw[hemp];exact za _)
  rw[hemp,AAB]at a2;have hse:=eB h hi;have hl2:(Nh x (Gp d (i:Nat))).AR.length=5:=by rw[hse,a2,zV];exact hl
  have hne:∀s,s≠i->C7 (Nh x (Gp d (i:Nat))) s=C7 x s:=fun s hs=>by
   unfold C7;rw[hse,a2,zK,zK,zR,zF (AAA hs)]
  obtain⟨b1,b2,b3,b4⟩:=aO h k (i+1) (Nh x (Gp d (i:Nat))) (c+(HM d rs i).length) (by omega) (by
   rw[hse];refine a3.imp fun t ht=>?_
   rcases ht with⟨s,hs,r,hr,e⟩ | ⟨r,hr,e⟩
   ·exact⟨s,by omega,r,hr,e⟩
   ·exact⟨i,by omega,r,hsub r hr,e⟩) (by omega) hl2 (fun s h1 h2=>by rw[hne s (by omega)];exact he s (by omega) h2)
  have hbad:=Fe h.len (show i < 7 by omega);refine⟨⟨⟨h.dn,hbad,fun _=>⟨Rv h.dn hbad,?_⟩⟩,by rw[hse];exact a1,b1⟩,b2,fun s hs=>?_,fun s h1 h2=>?_⟩
  ·rw[Nt];obtain⟨n,hn,hb⟩:=h.pre i hi;have:=h.sz i hi;exact⟨by omega,by rw[hb,zO];omega,by omega,by omega⟩
  ·rw[<-hne s (by omega)];exact b3 s (by omega)
  ·by_cases e:s=i
   ·subst e;show C7 (Mh d k (s+1) _) s=_;rw[b3 s (by omega)];unfold C7;rw[hse,a2];exact Dp (by omega)
   ·exact b4 s (by omega) h2
theorem aG (h:je d rs):N9 d/\(EG d).AR.length=5/\∀s,s < 5->C7 (EG d) s=D4 (s:Nat) 0 (HM d rs s):=by
 have h5:d.AR.toNat=5:=by rw[h.sl];rfl
 have h0:∀s,0<=s->s < 5->C7 (aN 5) s=[]:=fun s _ hs=>by
  unfold C7 aN;rw[zK,AA4];split<;>rfl
 obtain⟨b1,b2,_,b4⟩:=aO h 5 0 (aN 5) 0 rfl ⟨fun p hp=>(by cases hp),zA _,fun p hp=>(by cases hp)⟩ (by omega) (by unfold aN;simp) h0;refine⟨⟨h.dn,by rw[h.sl];decide,by rw[h.sl];decide,by rw[h5];exact b1⟩,?_,fun s hs=>?_⟩
 ·unfold EG;rw[h5];exact b2
 ·unfold EG;rw[h5];exact b4 s (za _) hs
theorem nz (h:je d rs):kR d:=by
 refine⟨h.dn,by rw[h.sl];decide,by rw[h.sl];decide,fun i hi=>?_⟩;rw[h.sl]at hi;have hi:i < 5:=by omega
 have hbad:=Fe h.len (show i < 7 by omega);refine⟨hbad,fun _=>Rv h.dn hbad,?_⟩;rw[Nt];obtain⟨n,hn,hb⟩:=h.pre i hi;have:=h.sz i hi;rw[hb,zO];omega
end
def u5:List GA:=[(Di,Ai AI 20 [true] (CX 20 (FT (fun d=> .bool d.down) id)),Cs AI 20 [true] (CX 20 ax)),
 (DT,Ai AI 20 [true] (CX 20 (FT (fun d=>int d.AR) id)),Cs AI 20 [true] (CX 20 Tx)),
 GQ CI [true] (CX 20 (TB Cn fun _=>false)),GQ 50 [true,true,true] x7]
theorem uk:Ci u5:= .OG QK Sy <| .OG Ox Q6 <| .cons RE <| .cons sQ .nil
abbrev lS:Ctx:=Bp Tryz.prog AI (Cv u5)
def Rg (n:Nat) (c:BT):Bool:=match c.fr.todo with
 | _:: .inBlock k::_=>Nat.beq k n
 | _=>false
def qU:Stop:=⟨Al,0,3,21,[20],[1,4,17,18]⟩
def dM:Stop:=⟨Al,0,3,21,[20],[1,29,30,31]⟩
def tZ (t:Tr Value):Aj:=⟨Al,t,BD Al,[.code (A9 Tryz.prog Al [1,1,1,0,1,0,0]),.inLoop (A9 Tryz.prog Al [1,1,1,0,1,0,0]),.inBlock 0,.code (A9 Tryz.prog Al [1,1,1,1])],[],false,.normal,none⟩
def xQ (d:Ab) (n:Int):BT:=⟨tZ (EZ [(1,At 21),(4,.slice none 0 0),(17,int n),(18,int 0)]),[],(hp [.abs (.pack (.dev d)) false]).alloc (.cells [At 20] 0 false)⟩
def kp (d:Ab) (l:Ad) (m:Nat) (n i:Int):BT:=⟨tZ (EZ [(1,At 21),(4,Ao 22 m),(17,int n),(18,int i)]),[],((hp [.abs (.pack (.dev d)) false]).alloc (.cells [At 20] 0 false)).alloc (.vec [.int .i64] l false)⟩
def dD (d:Ab) (l:Ad) (m:Nat) (j:Int):BT:=⟨⟨Al,EZ [(1,At 21),(29,Ao 22 m),(30,int m),(31,int j)],BD Al,[.code (A9 Tryz.prog Al [1,1,1,1,1,0,1,0,0]),.inLoop (A9 Tryz.prog Al [1,1,1,1,1,0,1,0,0]),.inBlock 2,.code (A9 Tryz.prog Al [1,1,1,1,1,1])],[],false,.normal,none⟩,[],((hp [.abs (.pack (.dev d)) false]).alloc (.cells [At 20] 0 false)).alloc (.vec [.int .i64] l false)⟩
def De (d:Ab) (i:Int):Int × Ab:=Ma d i Cn fun _=>false
theorem rk (d:Ab) (Q:Bm) (R:Bz):Iy lS (Ax u5) [] Al [20] qU [] Q R 900 (st Al [At 20] (hp [.abs (.pack (.dev d)) false]))=(
 (0 < Ab.AR d)/\(bif Ab.AR d==0 then(Q (int 1) [some (.abs (Ct.pack (PL.nx { v:=int (Ab.AR d),nx:=Pk.dev d,news:=[] })) false)])else((d.5)=(false))/\(0 < Ab.AR d)/\(R (xQ d (IntKind.wrap .i64 (Ab.AR d+2)))))):=by kernel_rfl
theorem jk (d:Ab) (l:Ad) (m:Nat) (n i:Int) (Q:Bm) (R R2:Bz):NH lS (Ax u5) [] Al [20] qU (fun c=>qU.here c&&Rg 0 c) dM (fun c=>dM.here c&&Rg 2 c) [] Q R R2 900 (kp d l m n i)=(
 (bif decide (i < n)then(bif true&&Nat.ble (0+m) l.length&&BQ 8 (m+1)then(R (kp d (List.take m (List.drop 0 l)++[i]) (m+1) n (IntKind.wrap .i64 (i+1))))else False)else((m=l.length/\51=Fp)/\ko d l)/\(R2 (dD d (JP d l) ((l.filter (Dm d)).length) 0)))):=by kernel_rfl
theorem ZC (d:Ab) (l:Ad) (m:Nat) (j:Int) (Q:Bm) (R R2:Bz):NH lS (Ax u5) [] Al [20] qU (fun c=>qU.here c&&Rg 0 c) dM (fun c=>dM.here c&&Rg 2 c) [] Q R R2 900 (dD d l m j)=(
 let a:=List.getD l (0+j.toNat) (EK.BL [SK.int IntKind.i64]);(bif decide (j < (m:Int))then(bif decide (0<=j)&&Nat.blt j.toNat m then(bif Nat.blt (0+j.toNat) l.length then(bif (Ma d a Cn fun _=>false).1 != 0 then(Q (int (Ma d a Cn fun _=>false).1) [some (.abs (Ct.pack (PL.nx { v:=int (Ma d a Cn fun _=>false).1,nx:=Pk.dev (Ma d a Cn fun _=>false).2,news:=[] })) false)])else(R2 (dD (De d a).2 l m (IntKind.wrap .i64 (j+1)))))else False)else False)else(Q (int 0) [some (.abs (Ct.pack (Pk.dev d)) false)]))):=by kernel_rfl
theorem A5.qB {X:Ctx} {N:Nat} {Φ:Bz} {fn:FuncId} {t:Tr Value} {n:Nat} {todo:List B9} {ds:List Deferred} {r:Bool} {kd:CallKind} {rd:Option Nat} {cs:List Aj} {H:AA} (i j:Nat) (k:EK) {b o:Nat} {s:Option Nat}
 (hd:C6 todo=true) (hi:look t i= .slice none 0 0) (hj:look t j= .pointer (some ⟨b,o,s⟩)) (hk:k.length≠0)
 (hr:A5 X N ⟨⟨fn,t.put i (some (.slice (some ⟨H.next,0,some 0⟩) 0 Aa)),n,todo,ds,r,kd,rd⟩,cs,H.alloc (.vec k [] false)⟩ Φ):A5 X N ⟨⟨fn,t,n,todo,ds,r,kd,rd⟩,cs,H⟩ Φ:=by
 intro base W0 hb hok hplan cs0 μ fr cs' W hm;obtain⟨hH,hlaid,g,gs,hfr,hcs,hnd⟩:=hm;cases hfr with
 | plain fn t n tm todo todo' ds ds' r kd rd rd' ht hi2 hd2 hr2=>
  have hj2:=ht.2 j;rw[hj]at hj2;obtain⟨T,hT⟩:=K1 hj2;obtain⟨h1,h2⟩:=hH.FN hT hk false;refine hr base W0 hb hok hplan cs0 _ _ cs' W ⟨h1,hlaid.mono h2.le,[],gs,.plain fn _ n tm todo todo' ds ds' r kd rd rd' ⟨ht.1,fun u=>?_⟩ (hi2.mono h2.le) (hd2.mono h2.le) (hr2.mono h2.le),hcs.mono (h2.keeps _),by simpa using hnd⟩
  by_cases hu:u=i
  ·subst hu;have hi3:=ht.2 u;rw[hi]at hi3;rw[Dq];generalize tm.getD u Go.undef=w at hi3;cases hi3
   exact .DW _ 0 Aa _ none (Ae.Af _ _ _) (.inr ⟨zA _,AAH _⟩)
  ·rw[EE _ _ hu];exact(ht.2 u).mono h2.le
 | drawn fn t n tm ops BJ idx D G k k' ds ds' kd rd rd' hD hk2 hd2 hr2=>cases hd
def allI (n:Nat):Ad:=(List.range n).map fun i=>((i:Nat):Int)
theorem JB (n:Nat):(allI n).length=n:=by unfold allI;simp
theorem Sa (n:Nat):allI (n+1)=allI n++[(n:Int)]:=by unfold allI;rw[List.range_succ,ABq];rfl
def HU (d:Ab):Ad->Int × Ab
 | []=>(0,d)
 | t::r=>bif (De d t).1 != 0 then De d t else HU (De d t).2 r
def Bo (d:Ab):Ad:=(allI (d.AR.toNat+2)).filter (Dm d)
structure Rj (d:Ab):Prop where
 dn:d.down=false
 s1:2<=d.AR
 s2:d.AR<=32
 ok:∀i∈allI (d.AR.toNat+2),Ba d.BB i=false
def jP (x:Int × Ab) (v:Value) (H:AA):Prop:=v=int x.1/\[20].map H.get=[some (.abs (.pack (.dev x.2)) false)]
theorem WL {Q:Bm} {R R2:Bz} {Q':Ih} {c:BT} (hQ:∀v H,Q v (([20]++Au 4 v).map H.get)->Q' v H) (hR:∀c,R c->AX lS 21 Al Q' c) (hR2:∀c,R2 c->AX lS 21 Al Q' c)
 (h:NH lS (Ax u5) [] Al [20] qU (fun c=>qU.here c&&Rg 0 c) dM (fun c=>dM.here c&&Rg 2 c) [] Q R R2 900 c):AX lS 21 Al Q' c:=
 IH uk.pf (M:=21) (by kernel_rfl) (by decide) (by decide) hQ hR hR2 900 _ h
theorem ki {l:Ad} {m:Nat} (hm:m<=l.length) (hm2:m < 1000):∀(n j:Nat) (d:Ab),m - j=n->j<=m->AX lS 21 Al (jP (HU d ((l.take m).drop j))) (dD d l m (j:Nat)):=by
 intro n;induction n with
 | zero=>
  intro j d hn hj;have e:(l.take m).drop j=[]:=AAQ (by rw[zO];omega);rw[e];refine WL (Q:=fun v os=>v=int 0/\os=[some (.abs (.pack (.dev d)) false)]) (R:=fun _=>False) (R2:=fun _=>False) (fun v H hq=>?_) (fun c h=>h.elim) (fun c h=>h.elim) ?_
  ·obtain⟨rfl,hos⟩:=hq;exact⟨rfl,hos⟩
  ·rw[ZC];exact AZ (zL (by omega)) ⟨rfl,rfl⟩
 | succ n ih=>
  intro j d hn hj;have hjm:j < m:=by omega
  have e:(l.take m).drop j=GP l j::(l.take m).drop (j+1):=by
   rw[AAR (by rw[zO];omega)]
   congr 1
   rw[List.getElem_take,IP (by omega)]
  have hw:IntKind.wrap .i64 ((j:Int)+1)=((j+1:Nat):Int):=by rw[wrap64 (by omega) (by omega)];rfl
  have e0:List.getD l (0+Int.toNat (j:Int)) (EK.BL [.int .i64])=GP l j:=by rw[zH,zN];rfl
  rw[e];unfold HU;cases hb:((De d (GP l j)).1 != 0)
  ·rw[zC];refine WL (Q:=fun _ _=>False) (R:=fun _=>False) (R2:=fun c=>c=dD (De d (GP l j)).2 l m ((j+1:Nat):Int)) (fun v H hq=>hq.elim) (fun c h=>h.elim) (fun c hc=>?_) ?_
   ·rw[hc];exact ih (j+1) _ (by omega) (by omega)
   ·rw[ZC];(conv=>zeta);rw[e0,hw]
    simp only[zH,zN];exact AB (zE (by omega)) (AB (EI hjm) (AB (Gc (by omega)) (AZ hb (by first | exact rfl | exact trivial))))
  ·rw[y8];refine WL (Q:=fun v os=>v=int (De d (GP l j)).1/\os=[some (.abs (.pack (.dev (De d (GP l j)).2)) false)]) (R:=fun _=>False) (R2:=fun _=>False) (fun v H hq=>?_) (fun c h=>h.elim) (fun c h=>h.elim) ?_
   ·obtain⟨rfl,hos⟩:=hq;exact⟨rfl,hos⟩
   ·rw[ZC];(conv=>zeta);rw[e0]
    simp only[zH,zN];exact AB (zE (by omega)) (AB (EI hjm) (AB (Gc (by omega)) (AB hb ⟨rfl,rfl⟩)))
theorem Yz (d:Ab) (l:Ad):(JP d l).take (l.filter (Dm d)).length=l.filter (Dm d):=by
 unfold JP;rw[zg (zA _),AAN]
theorem kj {d:Ab} {n:Nat} (hn:n < 100) (hok:ko d (allI n)):∀(k i:Nat),n - i=k->i<=n->AX lS 21 Al (jP (HU d ((allI n).filter (Dm d)))) (kp d (allI i) i (n:Nat) (i:Nat)):=by
 intro k;induction k with
 | zero=>
  intro i hk hi;have e:i=n:=by omega
  subst e;refine WL (Q:=fun _ _=>False) (R:=fun _=>False) (R2:=fun c=>c=dD d (JP d (allI i)) ((allI i).filter (Dm d)).length ((0:Nat):Int)) (fun v H hq=>hq.elim) (fun c h=>h.elim) (fun c hc=>?_) ?_
  ·rw[hc];have hl:((allI i).filter (Dm d)).length<=i:=by have:=ABf (Dm d) (allI i);rw[JB]at this;exact this
   have:=ki (l:=JP d (allI i)) (m:=((allI i).filter (Dm d)).length) (by unfold JP;rw[zM];omega) (by omega) _ 0 d rfl (za _);rw[Yz]at this;exact this
  ·rw[jk];exact AZ (zL (by omega)) ⟨⟨⟨(JB i).symm,rfl⟩,hok⟩,rfl⟩
 | succ k ih=>
  intro i hk hi;have hw:IntKind.wrap .i64 ((i:Int)+1)=((i+1:Nat):Int):=by rw[wrap64 (by omega) (by omega)];rfl
  refine WL (Q:=fun _ _=>False) (R:=fun c=>c=kp d (allI (i+1)) (i+1) (n:Nat) ((i+1:Nat):Int)) (R2:=fun _=>False) (fun v H hq=>hq.elim) (fun c hc=>?_) (fun c h=>h.elim) ?_
  ·rw[hc];exact ih (i+1) (by omega) (by omega)
  ·rw[jk,hw];have hc:(true&&Nat.ble (0+i) (allI i).length&&BQ 8 (i+1))=true:=by
    rw[JB,zN,y7 (zA _)];unfold BQ;rw[y7 (by omega),y7 (by omega)];rfl
   have ht:List.take i (List.drop 0 (allI i))++[(i:Int)]=allI (i+1):=by
    rw[zc,zI (by rw[JB];exact zA _),Sa]
   refine AB (zE (by omega)) (AB hc ?_);rw[ht]
theorem gw {d:Ab} (h:Rj d):AX lS 21 Al (jP (HU d (Bo d))) (st Al [At 20] (hp [.abs (.pack (.dev d)) false])):=by
 obtain⟨n,hn⟩:∃n:Nat,d.AR=(n:Int):=⟨d.AR.toNat,by have:=h.s1;omega⟩
 have h1:=h.s1;have h2:=h.s2;have hok:=h.ok;rw[hn]at h1 h2;have et:Bo d=(allI (n+2)).filter (Dm d):=by unfold Bo;rw[hn,zH]
 rw[hn,zH]at hok;rw[et];refine Bq uk.pf [] [20] qU [] (by kernel_rfl) (show 21<=21 from zA _) (fun _ _=>False) (fun c=>c=xQ d ((n+2:Nat):Int)) (fun v H h=>h.elim) (fun c hc=>?_) (n:=900) ?_
 ·rw[hc];have hT:=kj (d:=d) (n:=n+2) (by omega) ⟨h.dn,hok,by rw[JB];omega⟩ _ 0 rfl (za _);refine A5.qB 4 1 [.int .i64] (b:=21) (o:=0) (s:=none) (by kernel_rfl) (by kernel_rfl) (by kernel_rfl) (by decide) ?_;have e:kp d (allI 0) 0 ((n+2:Nat):Int) ((0:Nat):Int)=⟨⟨Al,(EZ [(1,At 21),(4,.slice none 0 0),(17,int ((n+2:Nat):Int)),(18,int 0)]).put 4 (some (.slice (some ⟨((hp [.abs (.pack (.dev d)) false]).alloc (.cells [At 20] 0 false)).next,0,some 0⟩) 0 Aa)),BD Al,(tZ .leaf).todo,[],false,.normal,none⟩,[],((hp [.abs (.pack (.dev d)) false]).alloc (.cells [At 20] 0 false)).alloc (.vec [.int .i64] [] false)⟩:=by kernel_rfl
  rw[e]at hT;exact hT
 ·rw[rk];rw[hn];have hp:0 < (n:Int):=by omega
  have hne:((n:Int)==0)=false:=AAJ.2 (by omega);have hw:IntKind.wrap .i64 ((n:Int)+2)=((n+2:Nat):Int):=by rw[wrap64 (by omega) (by omega)];rfl
  exact⟨hp,AZ hne ⟨h.dn,hp,by rw[hw]⟩⟩
def ZH:Gk:=fun p rest os=>match p,rest,os with
 | .dev d,[],[]=> .ask (Rj d) (.ret ⟨int (HU d (Bo d)).1,.dev (HU d (Bo d)).2,[]⟩)
 | _,_,_=> .fail
theorem eA:CY Tryz.prog AI Al (Ai AI 20 [true] (CX 20 ZH)):=by
 refine UP uk.all (n:=BD Al) (by kernel_rfl) fun s rest os=>?_
 unfold ZH;split
 ·rename_i d;intro h;refine⟨VC (by kernel_rfl),Ak.mono (AX.Fh (gw h)) ?_⟩;rintro v H ⟨rfl,hos⟩;simp only[zb,AAY,zQ,AAF]at hos;refine⟨[],zx,fun b hb=>(by cases hb),rfl,rfl,fun j b o hj=>(by cases hj),fun j o hj _ ho=>?_⟩;have hj:j=0:=by have hj:j < 0+1:=hj;omega
  subst hj;cases ho
  exact⟨_,rfl,hos⟩
 ·trivial
end Go.AD
