/-
  Part of the proof: fixed runs of a program. No conditions.
-/
import Derived.Test.YtfnfimeefeigdaaGreatDoorInc
noncomputable section
set_option maxRecDepth 1000000
namespace Go.AB
open Go.Proofs
structure fw(t m r y a b:Nat)(x:B6)(H:AA):Prop where
 nd:[t,m,r,y,a,b].Nodup
 g0:H.get t=some (.cells [Al m,Aq r x.AO.length] 0 false)
 g1:H.get m=some (.cells [.bool true,Aq y x.keys.length] 0 false)
 g2:H.get r=some (.vec [.tok] (DM a x.AO) false)
 g3:H.get y=some (.vec DU (CS b x.keys) false)
 g4:H.get a=some (.abs (.mem Ak (x.AO.map some)) false)
 g5:H.get b=some (.abs (.mem Ak (C7 x.keys)) false)
theorem W3{base:Env}{W0 W:World}{Z:AW}{H:AA}(h:AH base W0 Z H W){t m r y a b:Nat}{x:B6}(hI:fw t m r y a b x H)(hd:∀z∈[t,m,r,y,a,b],∃T,Z z=some T):AH base W0 Z (J2 (.idx x) [t,m,r,y,a,b] H) W:=by
 have hS:=Ez (s:= .idx x) (H:=H) hI.nd;refine(h.shut (Bh.idx x) hI.nd rfl (by simp) hd (fun i z o hz ho=>?_) hS (fun o T ho=>by cases ho;exact id)).1
 match i,hz,ho with
 | 0,hz,ho=>cases hz;cases ho;exact⟨_,hI.g0,rfl,rfl,rfl⟩
 | 1,hz,ho=>cases hz;cases ho;exact⟨_,hI.g1,rfl,rfl,rfl⟩
 | 2,hz,ho=>cases hz;cases ho;exact⟨_,hI.g2,rfl,rfl,LP (by rfl) _ _⟩
 | 3,hz,ho=>cases hz;cases ho;exact⟨_,hI.g3,rfl,rfl,LF (by rfl) _ _⟩
 | 4,hz,ho=>cases hz;cases ho;exact⟨_,hI.g4,rfl,rfl,rfl⟩
 | 5,hz,ho=>cases hz;cases ho;exact⟨_,hI.g5,rfl,rfl,rfl⟩
 | i+6,hz,ho=>cases hz
def pS(n:Nat):B6:=⟨[],List.replicate n []⟩
def Iw(n:Nat)(H:AA):AA:=(H.put 20 (.vec [.tok] (List.replicate n (Value.slice none 0 0)) false)).put 22 (.cells [Al 21,Aq 20 n] 0 false)
def Iv(n:Nat)(H:AA):AA:=((Iw n H).F3 DU).put 21 (.cells [.bool true,Aq (Iw n H).DR 0] 0 false)
def Rj(n:Nat)(H:AA):AA:=((Iv n H).alloc (.abs (.mem Ak (List.replicate n (some []))) false)).put 20 (.vec [.tok] (DM (Iv n H).next (List.replicate n [])) false)
def VN(n:Nat)(H:AA):AA:=(Rj n H).alloc (.abs (.mem Ak (List.replicate 0 (some []))) false)
def sE(n:Nat)(H:AA):AP:=[22,21,20,(Iw n H).DR,(Iv n H).next,(Rj n H).next]
def yI(n:Nat)(H:AA):AA:=J2 (.idx (pS n)) (sE n H) (VN n H)
theorem bI(n:Nat)(H:AA):(Iv n H).next=(Iw n H).DR+1/\(Rj n H).next=(Iv n H).next+1/\100<=(Iw n H).DR/\(Iw n H).next<=(Iw n H).DR:=⟨rfl,rfl,AA.Oe _,Nat.le_max_left _ _⟩
theorem Wf(n:Nat)(H:AA):(sE n H).Nodup:=by
 obtain⟨h1,h2,h3,_⟩:=bI n H;unfold sE;simp only[ABS,AAw,AA6,ABr,ACc,AA3,ABF];refine⟨?_,?_,?_,?_,by omega,id⟩
 all_goals omega
theorem mn{base:Env}{W0 W:World}{Z:AW}{H:AA}{n:Nat}(hn:1<=n)(hn2:n<=32)(hH:AH base W0 Z H W)(hm:∃T,Z 22=some T)(g20:H.get 20=some (.cells (List.replicate n (.slice none 0 0)) 1 false))(g21:H.get 21=some (.cells [.bool true,.slice none 0 0] 0 false))(g22:H.get 22=some (.cells [Al 21,.slice (some ⟨20,0,none⟩) n n] 0 false)):
 ∃μ2,Z.le μ2/\AH base W0 μ2 (yI n H) W:=by
 obtain⟨e1,e2,e3,e4⟩:=bI n H;have l20:=hH.lt g20;have l22:=hH.lt g22;have m21:∃T,Z 21=some T:=Ia.Yk hH (rs:=[22]) (fun r hr=>by simp at hr;subst hr;exact hm) (.next (.here (by simp)) g22 (List.mem_flatMap.2 ⟨Al 21,by simp,by show 21∈[21];simp⟩))
 have m20:∃T,Z 20=some T:=Ia.Yk hH (rs:=[22]) (fun r hr=>by simp at hr;subst hr;exact hm) (.next (.here (by simp)) g22 (List.mem_flatMap.2 ⟨.slice (some ⟨20,0,none⟩) n n,by simp,by show 20∈[20];simp⟩))
 have k1:=hH.JN (b:=20) (k:=[.tok]) (l:=List.replicate n (Value.slice none 0 0)) (ro:=false) (by rw[D8];exact g20);have k2:=k1.ig (b:=22) (n:=20) (len:=n) (cap:=n) (e:=0) (k:=[.tok]) (l:=List.replicate n (Value.slice none 0 0)) (ro:=false) (ro2:=false) (pre:=[Al 21]) (post:=[]) (by rw[AA.AQ,AAW (by decide)];exact g22) (by rw[AA.AQ,AAZ rfl]) (by omega) (AAT _) (by rw[AAr];exact AAT _) (by omega);rw[EA]at k2;have k2:AH base W0 Z (Iw n H) W:=k2;have p21:(Iw n H).get 21=some (.cells [.bool true,.slice none 0 0] 0 false):=by
  unfold Iw;rw[AA.AQ,AAW (by decide),AA.AQ,AAW (by decide)];exact g21
 have p20:(Iw n H).get 20=some (.vec [.tok] (List.replicate n (Value.slice none 0 0)) false):=by
  unfold Iw;rw[AA.AQ,AAW (by decide),AA.AQ,AAZ rfl]
 have p22:(Iw n H).get 22=some (.cells [Al 21,Aq 20 n] 0 false):=by
  unfold Iw;rw[AA.AQ,AAZ rfl]
 obtain⟨ν1,u1,k3⟩:=k2.nM (c:=20) (k:=DU) (b:=21) (e:=0) (ro:=false) (pre:=[.bool true]) (post:=[]) m20 p21 (by decide);rw[EA]at k3;have k3:AH base W0 ν1 (Iv n H) W:=k3;have q21:(Iv n H).get 21=some (.cells [.bool true,Aq (Iw n H).DR 0] 0 false):=by
  unfold Iv;rw[AA.AQ,AAZ rfl]
 have qo:∀z,z≠21->z≠(Iw n H).DR->(Iv n H).get z=(Iw n H).get z:=fun z z1 z2=>by
  unfold Iv;rw[AA.AQ,AAW z1,AA.KY,AAW z2]
 have qy:(Iv n H).get (Iw n H).DR=some (.vec DU [] false):=by
  unfold Iv;rw[AA.AQ,AAW (by omega),AA.KY,AAZ rfl]
 obtain⟨T,hT⟩:=m20;have k4:=k3.rM Ak n (by decide) (u1 20 T hT);generalize hT2:(⟨T.c,0,0,CO (List.replicate n ⟨T.c,0,0,Ak.length⟩)⟩:BQ)=T2 at k4;have u2:ν1.le (ν1.ext (Iv n H).next T2):=AW.CV T2 (k3.fresh _ (AAT _)).2;have k5:=k4.JZ (b:=20) (k:=[.tok]) (x:=List.replicate n (Value.slice none 0 0)) (x':=DM (Iv n H).next (List.replicate n [])) (ro:=false) (by rw[AA.AN,AAW (by omega),qo 20 (by decide) (by omega)];exact p20) (by rw[Co,AAr,AAr]) (fun w hw=>by
  rw[D8]at hw ⊢;refine Af.VH _ _ _ (by rw[Co,AAr,AAr]) (fun i v v' h1 h2 u hu=>?_) hw;rw[JB,ABt]at h2;rw[ABt]at h1;split at h1
  .rename_i hi;rw[AAZ hi]at h2;cases h1;cases h2;cases hu
   exact .GI _ i cU _ none (AW.AY _ _ _) (.inr ⟨by rw[EA];exact AAT _,by rw[EA];exact ABQ _⟩)
  .cases h1)
 have k5:AH base W0 _ (Rj n H) W:=k5;have k6:=k5.rM Ak 0 (by decide) (u2 20 T (u1 20 T hT));generalize (⟨T.c,0,0,CO (List.replicate 0 ⟨T.c,0,0,Ak.length⟩)⟩:BQ)=T3 at k6;have u3:(ν1.ext (Iv n H).next T2).le ((ν1.ext (Iv n H).next T2).ext (Rj n H).next T3):=AW.CV T3 (k5.fresh _ (AAT _)).2;have k6:AH base W0 _ (VN n H) W:=k6;have r4:∀z,z≠20->z < (Iv n H).next->(VN n H).get z=(Iv n H).get z:=fun z z1 z2=>by
  unfold VN;rw[AA.AN,AAW (by omega)];unfold Rj;rw[AA.AQ,AAW z1,AA.AN,AAW (by omega)]
 have hy:∃T,ν1 (Iw n H).DR=some T:=Ia.Yk k3 (rs:=[21]) (fun r hr=>by simp at hr;subst hr;obtain⟨X,hX⟩:=m21;exact⟨X,u1 _ _ hX⟩) (.next (.here (by simp)) q21 (List.mem_flatMap.2 ⟨Aq (Iw n H).DR 0,by simp,Kq⟩))
 have hI:fw 22 21 20 (Iw n H).DR (Iv n H).next (Rj n H).next (pS n) (VN n H):=by
  refine⟨Wf n H,?_,?_,?_,?_,?_,?_⟩
  .rw[r4 22 (by decide) (by omega),qo 22 (by decide) (by omega),p22];unfold pS;rw[AAr]
  .rw[r4 21 (by decide) (by omega),q21];rfl
  .unfold VN;rw[AA.AN,AAW (by omega)];unfold Rj;rw[AA.AQ,AAZ rfl];rfl
  .rw[r4 _ (by omega) (by omega),qy];rfl
  .unfold VN;rw[AA.AN,AAW (by omega)];unfold Rj;rw[AA.AQ,AAW (by omega),AA.AN,AAZ rfl];unfold pS;rw[List.map_replicate]
  .unfold VN;rw[AA.AN,AAZ rfl];rfl
 refine⟨_,AW.le_trans u1 (AW.le_trans u2 u3),W3 k6 hI fun z hz=>?_⟩;have up:∀z,(∃T,ν1 z=some T)->∃T,((ν1.ext (Iv n H).next T2).ext (Rj n H).next T3) z=some T:=fun z ⟨X,hX⟩=>⟨X,u3 _ _ (u2 _ _ hX)⟩
 have up0:∀z,(∃T,Z z=some T)->∃T,((ν1.ext (Iv n H).next T2).ext (Rj n H).next T3) z=some T:=fun z ⟨X,hX⟩=>up z ⟨X,u1 _ _ hX⟩
 simp only[AAw,AA6,ABr]at hz;rcases hz with rfl | rfl | rfl | rfl | rfl | rfl
 .exact up0 _ hm
 .exact up0 _ m21
 .exact up0 _ ⟨T,hT⟩
 .exact up _ hy
 .exact⟨T2,u3 _ _ (AW.AY _ _ _)⟩
 .exact⟨T3,AW.AY _ _ _⟩
def zg(args:AL)(objs:Ay):GT:=match args,objs with
 | [.int .i64 n],[]=> .ask (1<=n/\n<=32) (.ret ⟨.tuple ⟨[Al 20,int 0]⟩,[],[.abs (.pack (.idx (pS n.toNat))) false]⟩)
 | _,_=> .fail
theorem iL:CH Tryz.prog AG FT (Ab AG 20 [] zg):=by
 refine Ar xV.all (by kernel_rfl) (n:=A5 FT) (by kernel_rfl) (by kernel_rfl) fun argsc objs x hx hro=>?_
 clear hro;unfold zg at hx;split at hx
 .rename_i n;simp only[GT.run]at hx;split at hx
  .rename_i hp0;cases hx
   obtain⟨m,rfl⟩:∃m:Nat,n=(m:Int):=⟨n.toNat,by omega⟩
   rw[AAa];have hm1:1<=m:=by omega
   have hm2:m<=32:=by omega
   refine⟨VC (by kernel_rfl),AZ.tell (Aa.FG (Av xV.pf (M:=20) (by kernel_rfl) (sA (fun v os=>v= .tuple ⟨[Al 22,int 0]⟩/\os=[some (.cells (List.replicate m (.slice none 0 0)) 1 false),some (.cells [.bool true,.slice none 0 0] 0 false),some (.cells [Al 21,.slice (some ⟨20,0,none⟩) m m] 0 false),some (.cells [Al 21,.slice (some ⟨20,0,none⟩) m m] 0 false)]) m hm1 hm2 ⟨rfl,rfl⟩))) ?_⟩;rintro v H ⟨rfl,hos⟩;have hos:[20,21,22,22].map H.get=_:=hos;simp only[AAn,ABV,AAd,ABF]at hos;obtain⟨g20,g21,g22,_⟩:=hos;refine⟨.tuple ⟨[Al 22,int 0]⟩,yI m H,fun base W0 Z W v' _ hv hH=>?_,?_⟩
   .have hm:∃T,Z 22=some T:=Fb (Af.cons hv .nil) 22 (by show 22∈[22];simp)
    obtain⟨μ2,r1,r2⟩:=mn hm1 hm2 hH hm g20 g21 g22;exact⟨μ2,r1,r2,hv.mono r1⟩
   .refine⟨[22],by simp,fun b hb=>?_,rfl,rfl,fun j b o hj ho=>?_,fun j o hj=>(by cases hj)⟩
    .simp at hb;subst hb;decide
    .match j,hj,ho with
     | 0,hj,ho=>
      cases hj;cases ho
      exact⟨_,rfl,(Ez (Wf m H)).root 22 rfl⟩
     | j+1,hj,_=>cases hj
  .cases hx
 .cases hx
theorem LL{N:Nat}{q q1:Gz}(h:∀s rest os x,(q1 s rest os).gt.run=some x->(q s rest os).gt.run=some x):∀a o x,(Cl N q1 a o).run=some x->(Cl N q a o).run=some x:=by
 intro a o x hx;unfold Cl at hx ⊢;split at hx
 .rename_i b rest s ro os;cases hb:Nat.beq b N
  .simp only[hb,AAR,GT.run]at hx;cases hx
  .simp only[hb,AAO]at hx ⊢;exact h _ _ _ _ hx
 .cases hx
def DQ(d:A4)(i:Int):Int:=(Da d i).b.length
def fO:Gz:=fun p rest os=>match p,rest,os with
 | .dev d,[.int .i64 i],[]=> .ask (d.down=false/\BR d.BI i=false) (.ret ⟨Cf (DQ d i) 0,.dev d,[]⟩)
 | _,_,_=> .fail
def vU:Gz:=fun p rest os=>match p,rest,os with
 | .idx x,[.agg ⟨[.int .i64 q,.string a,.bool d,.int .i64 s,.int .i64 o,.int .i64 z]⟩],[]=> .ask ((s=(s.toNat:Int)/\JM x q a d s.toNat o z)/\DF x q a d s.toNat o z=0) (.ret ⟨int 0,.idx (Ef x q a d s.toNat o z),[]⟩)
 | _,_,_=> .fail
theorem QW:∀a o x,(Cl 20 fO a o).run=some x->(Cl 20 (Fi fun m=>m.b.length) a o).run=some x:=LL fun s rest os x hx=>by
 unfold fO at hx;unfold Fi;split at hx
 .rename_i d i;simp only[PT.gt,GT.run]at hx ⊢;split at hx
  .rename_i h;rw[JI h.1 h.2];exact hx
  .cases hx
 .simp only[PT.gt,GT.run]at hx;cases hx
theorem gw:∀a o x,(Cl 20 vU a o).run=some x->(tX a o).run=some x:=LL fun s rest os x hx=>by
 unfold vU at hx;unfold YQ;split at hx
 .rename_i y q a d s o z;simp only[PT.gt,GT.run]at hx ⊢;split at hx
  .rename_i h;rw[AAZ ⟨h.1,trivial⟩,h.2];exact hx
  .cases hx
 .simp only[PT.gt,GT.run]at hx;cases hx
end Go.AB
