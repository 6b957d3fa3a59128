/-
  Part of the proof: the machine that runs a program by fixed orders, and that each of its runs is a run of the model; or a run of it in parts. No conditions.
-/
import Derived.Test.YtbojbpalkegahaaGreatDoorC42rb
import Derived.Test.YtbojbpalkegahaaGreatDoorC42gf
import Derived.Test.YtbojbpalkegahaaGreatDoorC42e
import Derived.Test.YtbojbpalkegahaaGreatDoorProg
noncomputable section
set_option maxRecDepth 1000000
namespace Go.AI
open Go.Proofs
theorem DA {laid:List (Nat × List Value)} {N:Nat} {Bj:List Bool} {G:List Value->List AK->GT} {args:List Value} {H:AA} {K:Value->AA->Prop} (h:BU laid N Bj G args H K):∃v H',Al laid N Bj G args H=some (v,H')/\K v H':=by
 obtain⟨v,H',h1,h2⟩:=A9 (X:=⟨H0.P,H0.laid,fun _=>some (Al laid N Bj G),H0.Bu⟩) (f:=0) rfl h;exact⟨v,H',h1,h2⟩
theorem Ew (x:Value) (cur:List (EK.C AR)) (k:Int) (s v:ByteArray):Eg H0 (KK x cur k s v):=Ap (Ux (by kernel_rfl)) (Ap (F7 fun args H K h=>KX (F:=Al AL 9 [] M9) (by kernel_rfl) (fun _ _ _ h=>DA h) args H K h) (Ap (F7 fun args H K h=>KX (F:=Al AL 9 [] Jj) (by kernel_rfl) (fun _ _ _ h=>DA h) args H K h)
 (Ap (fun args H K h=>KW (F:=Al AL 9 [] Jb) (by kernel_rfl) (fun _ _ _ h=>DA h) args H K h) (Ap (fun _ _ _ h=>A9 (by kernel_rfl) h) (Ap (fun _ _ _ h=>A9 (by kernel_rfl) h) (A6 _))))))
theorem fL:A4 Tryz.prog AL dk:=A4.cons Xw (A4.cons (I3 Vd) (A4.cons (I3 Qc) (A4.cons (I3 Qd) (A4.cons O4 (A4.cons UY (A4.nil _ _))))))
inductive Ja (cfg:List Int) (m':AB) (n:Nat) (L:List (List (EK.C AR))) (cur:List (EK.C AR)) (k:Int) (s v:ByteArray):Bool->List (Option AK)->Prop where
 | same (a b c:Option AK) (hk:(k==4)=false):Ja cfg m' n L cur k s v false [some (.cells (OE cfg 10 11 (n+1)) 0 false),some (.abs (.pack (.model m')) false),some (.vec [.tok] (AP 12 L) false),some (.abs (.mem AR (L.map some)) false),a,b,c]
 | app (x:Option AK) (hk:(k==4)=false):Ja cfg m' n L cur k s v true [some (.cells (OE cfg 10 19 (n+1+1)) 0 false),some (.abs (.pack (.model m')) false),none,some (.abs (.mem AR (L.map some)) false),x,some (.vec AR (Ar cur k s v) false),some (.vec [.tok] (List.take (n+1) (List.drop 0 (AP 12 L))++[Value.slice (some ⟨17,0,some 0⟩) (Ar cur k s v).length AF]) false)]
 | ja (a b:Option AK) (hk:(k==4)=true):Ja cfg m' n L cur k s v false [some (.cells (ka cfg) 0 false),some (.abs (.pack (.model m')) false),some (.vec [.tok] (AP 12 L) false),some (.abs (.mem AR (L.map some)) false),some (.cells [.slice (some ⟨12,1,some n⟩) cur.length AF] 1 false),a,b]
abbrev Fw:List Nat:=[9,10,11,12,16,17,19]
abbrev NU (cfg:List Int) (m':AB) (n:Nat) (L:List (List (EK.C AR))) (cur:List (EK.C AR)) (k:Int) (s v:ByteArray) (u:Bool):Value->List (Option AK)->Prop:=fun vv os=>vv= .bool true/\Ja cfg m' n L cur k s v u os
theorem UJ {n:Nat} {L:List (List (EK.C AR))} (hn:n < 1000000) (hL:L.length=n+1):(true&&Nat.ble (0+(n+1)) (List.length (AP 12 L))&&BK 24 (n+1+1))=true:=by
 rw[Cd,hL,Nat.ble_eq_true_of_le (by omega)];unfold BK;rw[Nat.ble_eq_true_of_le (by omega),Nat.ble_eq_true_of_le (by omega)];rfl
section
variable {cfg:List Int} {m:AB} {n i:Nat} {L:List (List (EK.C AR))} {cur:List (EK.C AR)} {s v:ByteArray} {we:Int} {wv:ByteArray}
theorem XP (h:Fl cfg m n cur i) (hL:L.length=n+1) (hM:L[n]? = some cur) (hc:EL 1 0 0 s v) {u:Bool} (ha:CI m 1 s v=(we,wv,u)) (h11:(we==11)=false) (h13:(we==13)=false):∀(q:Nat) (e:Int),(18 - e).toNat=q->0<=e->e<=18->
 Ad H0 13 AO (fun vv H=>NU cfg (ED m 1 0 0 s v we wv) n L cur 1 s v u vv ((Fw++Af 4 vv).map H.get)) (DG cfg m n L (AP 12 L) 1 0 0 s v we wv u e):=by
 have hn:n < 1000000:=by have:=h.Iu;have:=h.le;omega
 have hb:=MP hc rfl ha;obtain⟨hw1,hw2⟩:=JI hc rfl ha h11 h13;have hw0:(IN m 1 0 0 s v we wv != 0)=false:=by rw[hw1];rfl
 intro q;induction q with
 | zero=>
  intro e hq h0 h18;refine CJ (Ew (FU n cur) cur 1 s v) (ids:=Fw) (S:=Rj) (by kernel_rfl) (Q:=NU cfg (ED m 1 0 0 s v we wv) n L cur 1 s v u) (R:=fun _=>False) (fun vv H h=>h) (fun c h=>h.elim) 600 _ ?_;rw[ZH];refine AU (fun h=>absurd h (by omega)) (fun _=>?_);cases u
  ·have hb0:(IN m 1 0 0 s v 11 { data:=#[] }==0)=false:=by rw[hb];rfl
   refine QK ⟨OQ h,rfl,rfl,rfl,JV h hc rfl _ _,rfl,EW hb0 ⟨JV h hc rfl _ _,EW hw0 (QK ⟨rfl,?_⟩)⟩⟩;first | exact Ja.same (k:=1) _ _ _ rfl | (rw[EH];exact Ja.same (k:=1) _ _ _ rfl)
  ·have hb0:(IN m 1 0 0 s v 11 { data:=#[] }==0)=true:=by rw[hb];rfl
   refine Pu ⟨OQ h,rfl,rfl,rfl,JV h hc rfl _ _,rfl,AH hb0 ⟨JV h hc rfl _ _,EW hw0 (Pu (AH (Ej hn) (AH (Di hn hL hM) ⟨rfl,rfl,rfl,rfl,rfl,rfl,En hn hM,CK hM,⟨⟨rfl,rfl⟩,?_⟩,⟨rfl,rfl⟩,rfl,rfl,rfl,rfl,rfl,AH (UJ hn hL) ⟨rfl,rfl,?_⟩⟩)))⟩⟩
   ·have:=h.len;have:=h.le;omega
   ·first | exact Ja.app (k:=1) _ rfl | (rw[EH];exact Ja.app (k:=1) _ rfl)
 | succ q ih=>
  intro e hq h0 h18;have hw:IntKind.wrap .i64 (e+1)=e+1:=wrap64 (by omega) (by omega);refine CJ (Ew (FU n cur) cur 1 s v) (ids:=Fw) (S:=Rj) (by kernel_rfl) (Q:=fun _ _=>False) (R:=fun c=>c=DG cfg m n L (AP 12 L) 1 0 0 s v we wv u (e+1)) (fun vv H h=>h.elim) (fun c h=>by rw[h];exact ih (e+1) (by omega) (by omega) (by omega)) 600 _ ?_;rw[ZH,hw];refine AU (fun _=>?_) (fun h=>absurd (show e<=(17:Int) by omega) h);refine Ae (fun hne=>Ae (fun h11=>?_) (fun _=>?_)) (fun _=>?_)
  ·refine⟨OQ h,rfl,rfl,JV h hc rfl _ _,?_⟩;rw[MH hc rfl ha (by simpa using h11) hne];exact EW rfl (by rw[CO])
  ·rw[CO]
  ·rw[CO]
theorem Xs (h:Fl cfg m n cur i) (hc:EL 2 0 0 s v) (ha:CI m 2 s v=(we,wv,false)) (h11:(we==11)=false) (h13:(we==13)=false):∀(q:Nat) (e:Int),(18 - e).toNat=q->0<=e->e<=18->
 Ad H0 13 AO (fun vv H=>NU cfg (ED m 2 0 0 s v we wv) n L cur 2 s v false vv ((Fw++Af 4 vv).map H.get)) (DG cfg m n L (AP 12 L) 2 0 0 s v we wv false e):=by
 have hn:n < 1000000:=by have:=h.Iu;have:=h.le;omega
 have hb:=MP hc rfl ha;obtain⟨hw1,hw2⟩:=JI hc rfl ha h11 h13;have hw0:(IN m 2 0 0 s v we wv != 0)=false:=by rw[hw1];rfl
 intro q;induction q with
 | zero=>
  intro e hq h0 h18;refine CJ (Ew (FU n cur) cur 2 s v) (ids:=Fw) (S:=Rj) (by kernel_rfl) (Q:=NU cfg (ED m 2 0 0 s v we wv) n L cur 2 s v false) (R:=fun _=>False) (fun vv H h=>h) (fun c h=>h.elim) 600 _ ?_;rw[Xb];refine AU (fun h=>absurd h (by omega)) (fun _=>?_);have hb0:(IN m 2 0 0 s v 11 { data:=#[] }==0)=false:=by rw[hb];rfl
  refine⟨OQ h,rfl,rfl,rfl,JV h hc rfl _ _,rfl,EW hb0 ⟨JV h hc rfl _ _,EW hw0 ⟨rfl,?_⟩⟩⟩;first | exact Ja.same (k:=2) _ _ _ rfl | (rw[EH];exact Ja.same (k:=2) _ _ _ rfl)
 | succ q ih=>
  intro e hq h0 h18;have hw:IntKind.wrap .i64 (e+1)=e+1:=wrap64 (by omega) (by omega);refine CJ (Ew (FU n cur) cur 2 s v) (ids:=Fw) (S:=Rj) (by kernel_rfl) (Q:=fun _ _=>False) (R:=fun c=>c=DG cfg m n L (AP 12 L) 2 0 0 s v we wv false (e+1)) (fun vv H h=>h.elim) (fun c h=>by rw[h];exact ih (e+1) (by omega) (by omega) (by omega)) 600 _ ?_;rw[Xb,hw];refine AU (fun _=>?_) (fun h=>absurd (show e<=(17:Int) by omega) h);refine Ae (fun hne=>Ae (fun h11=>?_) (fun _=>?_)) (fun _=>?_)
  ·refine⟨OQ h,rfl,rfl,JV h hc rfl _ _,?_⟩;rw[MH hc rfl ha (by simpa using h11) hne];exact EW rfl (by rw[CO])
  ·rw[CO]
  ·rw[CO]
theorem XC (h:Fl cfg m n cur i) (hL:L.length=n+1) (hM:L[n]? = some cur) (hc:EL 3 0 0 s v) {u:Bool} (ha:CI m 3 s v=(we,wv,u)) (h11:(we==11)=false) (h13:(we==13)=false):∀(q:Nat) (e:Int),(18 - e).toNat=q->0<=e->e<=18->
 Ad H0 13 AO (fun vv H=>NU cfg (ED m 3 0 0 s v we wv) n L cur 3 s v u vv ((Fw++Af 4 vv).map H.get)) (DG cfg m n L (AP 12 L) 3 0 0 s v we wv u e):=by
 have hn:n < 1000000:=by have:=h.Iu;have:=h.le;omega
 have hb:=MP hc rfl ha;obtain⟨hw1,hw2⟩:=JI hc rfl ha h11 h13;have hw0:(IN m 3 0 0 s v we wv != 0)=false:=by rw[hw1];rfl
 intro q;induction q with
 | zero=>
  intro e hq h0 h18;refine CJ (Ew (FU n cur) cur 3 s v) (ids:=Fw) (S:=Rj) (by kernel_rfl) (Q:=NU cfg (ED m 3 0 0 s v we wv) n L cur 3 s v u) (R:=fun _=>False) (fun vv H h=>h) (fun c h=>h.elim) 600 _ ?_;rw[ZX];refine AU (fun h=>absurd h (by omega)) (fun _=>?_);cases u
  ·have hb0:(IN m 3 0 0 s v 11 { data:=#[] }==0)=false:=by rw[hb];rfl
   refine QK ⟨OQ h,rfl,rfl,rfl,JV h hc rfl _ _,rfl,EW hb0 ⟨JV h hc rfl _ _,EW hw0 (QK ⟨rfl,?_⟩)⟩⟩;first | exact Ja.same (k:=3) _ _ _ rfl | (rw[EH];exact Ja.same (k:=3) _ _ _ rfl)
  ·have hb0:(IN m 3 0 0 s v 11 { data:=#[] }==0)=true:=by rw[hb];rfl
   refine Pu ⟨OQ h,rfl,rfl,rfl,JV h hc rfl _ _,rfl,AH hb0 ⟨JV h hc rfl _ _,EW hw0 (Pu (AH (Ej hn) (AH (Di hn hL hM) ⟨rfl,rfl,rfl,rfl,rfl,rfl,En hn hM,CK hM,⟨⟨rfl,rfl⟩,?_⟩,⟨rfl,rfl⟩,rfl,rfl,rfl,rfl,rfl,AH (UJ hn hL) ⟨rfl,rfl,?_⟩⟩)))⟩⟩
   ·have:=h.len;have:=h.le;omega
   ·first | exact Ja.app (k:=3) _ rfl | (rw[EH];exact Ja.app (k:=3) _ rfl)
 | succ q ih=>
  intro e hq h0 h18;have hw:IntKind.wrap .i64 (e+1)=e+1:=wrap64 (by omega) (by omega);refine CJ (Ew (FU n cur) cur 3 s v) (ids:=Fw) (S:=Rj) (by kernel_rfl) (Q:=fun _ _=>False) (R:=fun c=>c=DG cfg m n L (AP 12 L) 3 0 0 s v we wv u (e+1)) (fun vv H h=>h.elim) (fun c h=>by rw[h];exact ih (e+1) (by omega) (by omega) (by omega)) 600 _ ?_;rw[ZX,hw];refine AU (fun _=>?_) (fun h=>absurd (show e<=(17:Int) by omega) h);refine Ae (fun hne=>Ae (fun h11=>?_) (fun _=>?_)) (fun _=>?_)
  ·refine⟨OQ h,rfl,rfl,JV h hc rfl _ _,?_⟩;rw[MH hc rfl ha (by simpa using h11) hne];exact EW rfl (by rw[CO])
  ·rw[CO]
  ·rw[CO]
theorem ZD (h:Fl cfg m n cur i) (hL:L.length=n+1) (hM:L[n]? = some cur) (hc:EL 4 0 0 s v) (ha:CI m 4 s v=(we,wv,false)) (h11:(we==11)=false) (h13:(we==13)=false):∀(q:Nat) (e:Int),(18 - e).toNat=q->0<=e->e<=18->
 Ad H0 13 AO (fun vv H=>NU cfg (ED m 4 0 0 s v we wv) n L cur 4 s v false vv ((Fw++Af 4 vv).map H.get)) (DG cfg m n L (AP 12 L) 4 0 0 s v we wv false e):=by
 have hn:n < 1000000:=by have:=h.Iu;have:=h.le;omega
 obtain⟨hw1,hw2⟩:=JI hc rfl ha h11 h13;have hw0:(IN m 4 0 0 s v we wv != 0)=false:=by rw[hw1];rfl
 intro q;induction q with
 | zero=>
  intro e hq h0 h18;refine CJ (Ew (FU n cur) cur 4 s v) (ids:=Fw) (S:=Rj) (by kernel_rfl) (Q:=NU cfg (ED m 4 0 0 s v we wv) n L cur 4 s v false) (R:=fun _=>False) (fun vv H h=>h) (fun c h=>h.elim) 600 _ ?_;rw[YV];refine AU (fun h=>absurd h (by omega)) (fun _=>?_);have hb0:(IN m 4 0 0 s v 11 { data:=#[] }==0)=false:=by rw[MP hc rfl ha];rfl
  refine⟨OQ h,rfl,rfl,rfl,JV h hc rfl _ _,rfl,EW hb0 ⟨JV h hc rfl _ _,EW hw0 (AH (Ej hn) (AH (Di hn hL hM) ⟨rfl,?_⟩))⟩⟩;rw[En hn hM];first | exact Ja.ja (k:=4) _ _ rfl | (rw[EH];exact Ja.ja (k:=4) _ _ rfl)
 | succ q ih=>
  intro e hq h0 h18;have hw:IntKind.wrap .i64 (e+1)=e+1:=wrap64 (by omega) (by omega);refine CJ (Ew (FU n cur) cur 4 s v) (ids:=Fw) (S:=Rj) (by kernel_rfl) (Q:=fun _ _=>False) (R:=fun c=>c=DG cfg m n L (AP 12 L) 4 0 0 s v we wv false (e+1)) (fun vv H h=>h.elim) (fun c h=>by rw[h];exact ih (e+1) (by omega) (by omega) (by omega)) 600 _ ?_;rw[YV,hw];refine AU (fun _=>?_) (fun h=>absurd (show e<=(17:Int) by omega) h);refine Ae (fun hne=>Ae (fun h11=>?_) (fun _=>?_)) (fun _=>?_)
  ·refine⟨OQ h,rfl,rfl,JV h hc rfl _ _,?_⟩;rw[MH hc rfl ha (by simpa using h11) hne];exact EW rfl (by rw[CO])
  ·rw[CO]
  ·rw[CO]
end
section
variable {cfg:List Int} {m:AB} {n i:Nat} {L:List (List (EK.C AR))} {cur:List (EK.C AR)}
abbrev YM (cfg:List Int) (m:AB) (n:Nat) (L:List (List (EK.C AR))) (cur:List (EK.C AR)) (k:Int) (s v:ByteArray):Value->AA->Prop:=fun vv H=>NU cfg (Na cfg m cur k s v) n L cur k s v (Cc cfg cur k s v).2.2 vv ((Fw++Af 4 vv).map H.get)
theorem bO (h:Fl cfg m n cur i) (hL:L.length=n+1) (hM:L[n]? = some cur) {k:Int} (hk:k=1∨k=2∨k=3∨k=4) {s v:ByteArray} (hc:EL k 0 0 s v) (hs:s.size<=8) (hv:v.size<=16):
 Ad H0 13 AO (YM cfg m n L cur k s v) (DG cfg m n L (AP 12 L) k 0 0 s v (Cc cfg cur k s v).1 (Cc cfg cur k s v).2.1 (Cc cfg cur k s v).2.2 0):=by
 have ha:=Yh h (k:=k) hs hv;obtain⟨h11,h13⟩:=fK (cfg:=cfg) (cur:=cur) k s v;have hw:k≠7->ED m k 0 0 s v (Cc cfg cur k s v).1 (Cc cfg cur k s v).2.1=Na cfg m cur k s v:=fun h7=>(JI hc (int_ne h7) ha h11 h13).2
 unfold YM;rcases hk with rfl | rfl | rfl | rfl
 ·rw[<-hw (by decide)];exact XP h hL hM hc ha h11 h13 18 0 rfl (by decide) (by decide)
 ·have e:(Cc cfg cur 2 s v).2.2=false:=by unfold Cc;cases (C5 cur s).isSome<;>rfl
  rw[e]at ha;rw[<-hw (by decide),e];exact Xs h hc ha h11 h13 18 0 rfl (by decide) (by decide)
 ·rw[<-hw (by decide)];exact XC h hL hM hc ha h11 h13 18 0 rfl (by decide) (by decide)
 ·rw[<-hw (by decide)];exact ZD h hL hM hc ha h11 h13 18 0 rfl (by decide) (by decide)
theorem Ya (h:Fl cfg m n cur i) (hL:L.length=n+1) (hM:L[n]? = some cur) {kind key val:Int} (hb:DJ kind/\DJ key/\DJ val):
 Ad H0 13 AO (YM cfg m n L cur (aK kind) (aS kind key) (aV kind val)) (st AO 116 [p9,.agg ⟨[.int .u8 kind,.int .u8 key,.int .u8 val]⟩] (Q0 cfg m n L (AP 12 L))):=by
 obtain⟨hc,hk,hs,hv⟩:=Dt kind key val;have hn:n < 1000000:=by have:=h.Iu;have:=h.le;omega
 have hl:List.length cur < 400000:=by have:=h.len;have:=h.le;omega
 have ht:=bO h hL hM hk hc hs hv;generalize hS:aS kind key=s at *;generalize hV:aV kind val=v at *;refine CJ (Ew (FU n cur) cur (aK kind) s v) (ids:=[9,10,11,12]) (S:=Rj) (by kernel_rfl) (Q:=fun _ _=>False) (R:=fun c=>c=DG cfg m n L (AP 12 L) (aK kind) 0 0 s v (Cc cfg cur (aK kind) s v).1 (Cc cfg cur (aK kind) s v).2.1 (Cc cfg cur (aK kind) s v).2.2 0) (fun vv H h=>h.elim) (fun c h=>by rw[h];exact ht) 400 _ ?_;generalize hK:aK kind=k at *;rcases hk with rfl | rfl | rfl | rfl
 ·have hsm:Dz (Ar cur 1 s v):=by
   obtain⟨_,_,e3,e4,_⟩:=JE h.sorted s v;refine Ou (fun x hx=>?_) (by have:=h.len;have:=h.le;omega);rcases e4 x hx with hx | rfl
   ·exact h.small x hx
   ·exact⟨show s.size<=16 by omega,hv⟩
  have hfin:(bif decide (BG (Ar cur 1 s v)<=IntKind.wrap .i64 (Int.tdiv (IntKind.wrap .i64 (IntKind.wrap .i64 (IntKind.wrap .i64 (List.getD cfg 0 0 - List.getD cfg 2 0) - 2) * 84)) 2))then
   DG cfg m n L (Da [14,16] L) 1 0 0 s v 0 ({ data:=#[] }) true 0=DG cfg m n L (AP 12 L) 1 0 0 s v (Cc cfg cur 1 s v).1 (Cc cfg cur 1 s v).2.1 (Cc cfg cur 1 s v).2.2 0
   else DG cfg m n L (Da [14,16] L) 1 0 0 s v 4 ({ data:=#[] }) false 0=DG cfg m n L (AP 12 L) 1 0 0 s v (Cc cfg cur 1 s v).1 (Cc cfg cur 1 s v).2.1 (Cc cfg cur 1 s v).2.2 0):=by
   refine AU (fun hle=>?_) (fun hle=>?_)
   ·have e:Cc cfg cur 1 s v=(0,e0,true):=by
     have:Ij cfg cur s v=false:=decide_eq_false (by omega);unfold Cc;rw[this];rfl
    rw[CO,e];rfl
   ·have e:Cc cfg cur 1 s v=(4,e0,false):=by
     have:Ij cfg cur s v=true:=decide_eq_true (by omega);unfold Cc;rw[this];rfl
    rw[CO,e];rfl
  rw[bh];refine⟨⟨hb,hK,hS,hV⟩,AH (Ej hn) (AH (Di hn hL hM) ⟨rfl,rfl,En hn hM,CK hM,⟨⟨rfl,rfl⟩,by omega⟩,⟨rfl,rfl⟩,Ae (fun e=>⟨by rw[e],?_⟩) (fun e=>⟨by rw[e],?_⟩)⟩)⟩
  ·exact AH (Ej hn) (AH (Di hn hL hM) ⟨rfl,rfl,En hn hM,CK hM,⟨⟨rfl,rfl⟩,hl⟩,⟨rfl,rfl⟩,rfl,⟨⟨rfl,rfl⟩,hsm⟩,rfl,hfin⟩)
  ·exact AH (Ej hn) (AH (Di hn hL hM) ⟨rfl,rfl,En hn hM,CK hM,⟨⟨rfl,rfl⟩,hl⟩,⟨rfl,rfl⟩,rfl,⟨⟨rfl,rfl⟩,hsm⟩,rfl,hfin⟩)
 ·rw[cn];refine⟨⟨hb,hK,hS,hV⟩,AH (Ej hn) (AH (Di hn hL hM) ⟨rfl,rfl,En hn hM,CK hM,⟨⟨rfl,rfl⟩,by omega⟩,⟨rfl,rfl⟩,Ae (fun e=>⟨by rw[e],?_⟩) (fun e=>⟨by rw[e],?_⟩)⟩)⟩
  ·have e1:Cc cfg cur 2 s v=(0,(C5 cur s).getD e0,false):=by unfold Cc;rw[e];rfl
   rw[CO,e1]
  ·have e1:Cc cfg cur 2 s v=(5,e0,false):=by unfold Cc;rw[e];rfl
   have e2:(C5 cur s).getD e0=e0:=by
    cases hq:C5 cur s with
    | none=>rfl
    | some o=>rw[hq]at e;cases e
   rw[CO,e1,e2]
 ·rw[Z6];refine⟨⟨hb,hK,hS,hV⟩,AH (Ej hn) (AH (Di hn hL hM) ⟨rfl,rfl,En hn hM,CK hM,⟨⟨rfl,rfl⟩,by omega⟩,⟨rfl,rfl⟩,Ae (fun e=>⟨by rw[e],?_⟩) (fun e=>⟨by rw[e],?_⟩)⟩)⟩
  ·have e1:Cc cfg cur 3 s v=(0,e0,true):=by unfold Cc;rw[e];rfl
   rw[CO,e1];rfl
  ·have e1:Cc cfg cur 3 s v=(0,e0,false):=by unfold Cc;rw[e];rfl
   rw[CO,e1];rfl
 ·rw[aw];refine⟨⟨hb,hK,hS,hV⟩,AH (Ej hn) (AH (Di hn hL hM) ⟨rfl,rfl,En hn hM,CK hM,⟨⟨rfl,rfl⟩,by omega⟩,⟨rfl,rfl⟩,Ae (fun e=>⟨by rw[e],?_⟩) (fun e=>⟨by rw[e],?_⟩)⟩)⟩
  ·rw[CO];rfl
  ·rw[CO];rfl
end
theorem KF (b:Nat):∀(j:Nat) (L:List (List (EK.C AR))),List.flatMap (Af 4) (D9 b j L)=List.replicate L.length b
 | _,[]=>rfl
 | j,l::L=>by
  show Af 4 (.slice (some ⟨b,1,some j⟩) l.length AF)++List.flatMap (Af 4) (D9 b (j+1) L)=_;rw[KF b (j+1) L];rfl
theorem O5 (b z len:Nat) (L:List (List (EK.C AR))) (ro:Bool):Eu (.vec [.tok] (HE b z L len []) ro)=List.replicate L.length b++[z]:=by
 show List.flatMap (Af 4) (D9 b 0 L++[Value.slice (some ⟨z,0,some 0⟩) len AF])=_;rw[List.flatMap_append,KF];rfl
theorem Nr {H:AA} {N b:Nat} {r seen:List Nat} (hs:b∈seen):∀(j f:Nat),Am H N (f+j) (List.replicate j b++r) seen=Am H N f r seen
 | 0,_=>rfl
 | j+1,f=>by
  have h:seen.any (Nat.beq b)=true:=List.any_eq_true.2 ⟨b,hs,Nat.beq_refl b⟩;show Am H N (f+j+1) (b::(List.replicate j b++r)) seen=_;rw[Am];simp only[h,Bool.or_true,cond_true];exact Nr hs j f
structure YZ (cfg:List Int) (m:AB) (n:Nat) (L:List (List (EK.C AR))) (y a:Nat) (H:AA):Prop where
 nd:[9,10,y,a].Nodup
 g9:H.get 9=some (.cells (OE cfg 10 y (n+1)) 0 false)
 IB:H.get 10=some (.abs (.pack (.model m)) false)
 gy:H.get y=some (.vec [.tok] (AP a L) false)
 ga:H.get a=some (.abs (.mem AR (L.map some)) false)
def JU (L:List (List (EK.C AR))) (cur:List (EK.C AR)) (k:Int) (s v:ByteArray) (u:Bool):List (List (EK.C AR)):=bif k==4 then [cur]else bif u then L++[Ar cur k s v]else L
def Tk (n:Nat) (k:Int) (u:Bool):Nat:=bif k==4 then 0 else bif u then n+1 else n
theorem WO {D:Nat->Prop} (hD:D 9) {cfg:List Int} {m':AB} {n:Nat} {L:List (List (EK.C AR))} {cur:List (EK.C AR)} {k:Int} {s v:ByteArray} {u:Bool} {vv:Value} {H:AA} (hL:L.length=n+1) (hM:L[n]? = some cur) (hn:n<=150) (hnx:20<=H.next)
 (hq:NU cfg m' n L cur k s v u vv ((Fw++Af 4 vv).map H.get)):
 ∃v2 H2,(∀(base:Env) (W0:World) (μ:Ai) (W:World) (v':Value),(∀b,D b->∃T,μ b=some T)->AM μ vv v'->AT base W0 μ H W->∃μ2,μ.le μ2/\AT base W0 μ2 H2 W/\AM μ2 v2 v')/\
  v2= .bool true/\∃y a,YZ cfg m' (Tk n k u) (JU L cur k s v u) y a H2/\((!(k==4)&& !u)=true->y=11)/\((!(k==4)&& !u)=false->12<=y):=by
 obtain⟨rfl,hq⟩:=hq;generalize hos:(Fw++Af 4 (.bool true)).map H.get=os at hq;have hos:[H.get 9,H.get 10,H.get 11,H.get 12,H.get 16,H.get 17,H.get 19]=os:=hos;have hb:∀μ',AM μ' (.bool true) (.bool true):=fun μ'=> .bool _
 cases hq with
 | same a b c hk=>
  simp only[List.cons.injEq,and_true]at hos;obtain⟨g9,IB,g11,g12,_⟩:=hos;refine⟨_,H,fun base W0 μ W v' _ hv hH=>⟨μ,Ai.le_refl _,hH,hv⟩,rfl,11,12,⟨by decide,?_,IB,?_,?_⟩,fun _=>rfl,fun e=>(by rw[hk]at e;cases e)⟩
  ·unfold Tk;rw[hk];exact g9
  ·unfold JU;rw[hk];exact g11
  ·unfold JU;rw[hk];exact g12
 | app x hk=>
  simp only[List.cons.injEq,and_true]at hos;obtain⟨g9,IB,g11,g12,g16,g17,g19⟩:=hos;have g19:H.get 19=some (.vec [.tok] (HE 12 17 L (Ar cur k s v).length []) false):=by
   rw[g19,List.drop_zero,List.take_of_length_le (by rw[Cd,hL];exact Nat.le_refl _)];rfl
  have hr:∀x∈[12,17],x∈Am H 0 200 [9] []:=by
   intro x hx;rw[As g9 rfl];show x∈Am H 0 199 [10,19] [9];rw[As IB rfl];show x∈Am H 0 198 [19] [9,10];rw[As g19 rfl,O5,hL,List.append_nil];show x∈Am H 0 197 (12::(List.replicate n 12++[17])) [9,10,19];rw[As g12 rfl];show x∈Am H 0 196 (List.replicate n 12++[17]) [9,10,19,12];rw[show 196=(195 - n+1)+n by omega,Nr (by simp),As g17 rfl];refine Bf H 0 _ _ _ x ?_;simp only[List.mem_cons,List.not_mem_nil,or_false]at hx;rcases hx with rfl | rfl<;>simp
  refine⟨_,(H.freeze 12 17 AR (L.map some) (Ar cur k s v)).put 19 (.vec [.tok] (AP H.next (L++[Ar cur k s v])++[]) false),fun base W0 μ W v' hd hv hH=>?_,rfl,19,H.next,⟨?_,?_,?_,?_,?_⟩,fun e=>(by rw[hk]at e;cases e),fun _=>by decide⟩
  ·have hr2:=FA hH (N:=0) 200 [9] [] (fun b hb=>by
    rw[List.mem_singleton]at hb;subst hb
    obtain⟨T,hT⟩:=hd 9 hD;exact⟨T,hT⟩) ⟨List.nodup_nil,fun b hb=>by cases hb⟩
   obtain⟨T,hT⟩:=(hr2.2 12 (hr 12 (by simp))).2;obtain⟨M,hMz⟩:=(hr2.2 17 (hr 17 (by simp))).2;obtain⟨T2,h2⟩:=hH.O9 (r:=[]) g12 hT g19 g17 hMz;have hle:=Ai.DU (μ:=μ) T2 (hH.fresh _ (Nat.le_refl _)).2;exact⟨_,hle,h2,hv.mono hle⟩
  ·simp only[List.nodup_cons,List.mem_cons,List.not_mem_nil,or_false,not_or,List.nodup_nil,and_true,not_false_eq_true];omega
  ·unfold Tk;rw[AA.AQ,if_neg (by decide),Hp,if_neg (by omega),if_neg (by decide),if_neg (by decide),hk];exact g9
  ·rw[AA.AQ,if_neg (by decide),Hp,if_neg (by omega),if_neg (by decide),if_neg (by decide)];exact IB
  ·unfold JU;rw[AA.AQ,if_pos rfl,hk]
   show _=some (AK.vec [.tok] (AP H.next (L++[Ar cur k s v])) false);rw[List.append_nil]
  ·unfold JU;rw[AA.AQ,if_neg (by omega),Hp,if_pos rfl,hk]
   show _=some (AK.abs (.mem AR ((L++[Ar cur k s v]).map some)) false);rw[List.map_append];rfl
 | ja a b hk=>
  simp only[List.cons.injEq,and_true]at hos;obtain⟨g9,IB,g11,g12,g16,_⟩:=hos;have hr:12∈Am H 0 200 [9] []:=by
   rw[As g9 rfl];show 12∈Am H 0 199 [10,16] [9];rw[As IB rfl];show 12∈Am H 0 198 [16] [9,10];rw[As g16 rfl];show 12∈Am H 0 197 [12] [9,10,16];rw[As g12 rfl];exact Bf H 0 _ _ _ 12 (by simp)
  generalize hH2:(H.put 16 (.vec [.tok] [Value.slice (some ⟨12,1,some n⟩) cur.length AF] false)).put 9 (.cells ((OE cfg 10 11 0).take 8++ .slice (some ⟨16,0,some 0⟩) 1 AF::[]) 0 false)=H2;have q9:H2.get 9=some (.cells (OE cfg 10 16 (0+1)) 0 false):=by rw[<-hH2,AA.AQ,if_pos rfl];rfl
  have q10:H2.get 10=some (.abs (.pack (.model m')) false):=by rw[<-hH2,AA.AQ,if_neg (by decide),AA.AQ,if_neg (by decide)];exact IB
  have q12:H2.get 12=some (.abs (.mem [.str,.str] (L.map some)) false):=by rw[<-hH2,AA.AQ,if_neg (by decide),AA.AQ,if_neg (by decide)];exact g12
  have q16:H2.get 16=some (.vec [.tok] [Value.slice (some ⟨12,1,some n⟩) cur.length AF] false):=by rw[<-hH2,AA.AQ,if_neg (by decide),AA.AQ,if_pos rfl]
  have qn:H2.next=H.next:=by rw[<-hH2];rfl
  refine⟨_,H2.only 12 n 16 L cur cur.length AF,fun base W0 μ W v' hd hv hH=>?_,rfl,16,H2.next+1,⟨?_,?_,?_,?_,?_⟩,fun e=>(by rw[hk]at e;cases e),fun _=>by decide⟩
  ·have hr2:=FA hH (N:=0) 200 [9] [] (fun b hb=>by
    rw[List.mem_singleton]at hb;subst hb
    obtain⟨T,hT⟩:=hd 9 hD;exact⟨T,hT⟩) ⟨List.nodup_nil,fun b hb=>by cases hb⟩
   obtain⟨T,hT⟩:=(hr2.2 12 hr).2;have h1:=hH.Mu (k:=[.tok]) (l:=[Value.slice (some ⟨12,1,some n⟩) cur.length AF]) (ro:=false) (by rw[HV];exact g16);have h2:AT base W0 μ H2 W:=by
    rw[<-hH2];refine h1.Q3 (n:=16) (len:=1) (cap:=1) (l:=[Value.slice (some ⟨12,1,some n⟩) cur.length AF]) (ro2:=false) ?_ (by rw[AA.AQ,if_pos rfl]) (by decide) (by decide) (Nat.le_refl 1) (by decide);rw[AA.AQ,if_neg (by decide)];exact g9
   obtain⟨μ2,hle,h3⟩:=h2.only q12 hT hM q16;exact⟨μ2,hle,h3,hv.mono hle⟩
  ·simp only[List.nodup_cons,List.mem_cons,List.not_mem_nil,or_false,not_or,List.nodup_nil,and_true,not_false_eq_true];omega
  ·unfold Tk;rw[KU,if_neg (by decide),if_neg (by omega),if_neg (by omega),if_neg (by decide),hk];exact q9
  ·rw[KU,if_neg (by decide),if_neg (by omega),if_neg (by omega),if_neg (by decide)];exact q10
  ·unfold JU;rw[KU,if_pos rfl,hk];rfl
  ·unfold JU;rw[KU,if_neg (by omega),if_pos rfl,hk];rfl
theorem Tm {D:Nat->Prop} (hD:D 9) {cfg:List Int} {m':AB} {n:Nat} {L:List (List (EK.C AR))} {cur:List (EK.C AR)} {k:Int} {s v:ByteArray} {u:Bool} {vv:Value} {H:AA} (hL:L.length=n+1) (hM:L[n]? = some cur) (hn:n<=150)
 (hq:NU cfg m' n L cur k s v u vv ((Fw++Af 4 vv).map H.get)):
 ∃v2 H2,(∀(base:Env) (W0:World) (μ:Ai) (W:World) (v':Value),(∀b,D b->∃T,μ b=some T)->AM μ vv v'->AT base W0 μ H W->∃μ2,μ.le μ2/\AT base W0 μ2 H2 W/\AM μ2 v2 v')/\
  v2= .bool true/\∃y a,YZ cfg m' (Tk n k u) (JU L cur k s v u) y a H2/\((!(k==4)&& !u)=true->y=11)/\((!(k==4)&& !u)=false->12<=y):=by
 obtain⟨v2,H2,h1,h2⟩:=WO (H:=H.S6 100) hD hL hM hn (Nat.le_trans (by decide) (Nat.le_max_right _ 100)) hq;exact⟨v2,H2,fun base W0 μ W v' hd hv hH=>h1 base W0 μ W v' hd hv (hH.S6 100),h2⟩
def TQ (cfg:List Int) (m:AB) (n:Nat) (L:List (List (EK.C AR))):AA:=BH ⟨.leaf,9⟩ [.cells (OE cfg 10 11 (n+1)) 0 false,.abs (.pack (.model m)) false,.abs (.pack (.Co L)) false]
theorem Ys (cfg:List Int) (m:AB) (n:Nat) (L:List (List (EK.C AR))):∀x,12<=x->(TQ cfg m n L).get x=none:=by
 intro x hx;unfold TQ;rw[Ev];show(if x < 9 then _ else _)=_;rw[if_neg (by omega),List.getElem?_eq_none (by simp;omega)];rfl
theorem Xu (cfg:List Int) (m:AB) (n:Nat) (L:List (List (EK.C AR))):((TQ cfg m n L).put 11 (.vec [.tok] (AP 12 L) false)).alloc (.abs (.mem AR (L.map some)) false)=Q0 cfg m n L (AP 12 L):=by kernel_rfl
theorem Ms {ρ:Ren} {b c:Nat} (hb:ρ b=some c):∀(j:Nat) (L:List (List (EK.C AR))),DI (FC ρ) (D9 b j L)=some (D9 c j L)
 | _,[]=>rfl
 | j,l::L=>by
  have h1:FC ρ (.slice (some ⟨b,1,some j⟩) l.length AF)=some (.slice (some ⟨c,1,some j⟩) l.length AF):=by
   simp only[FC,Bz,PM,hb];rfl
  show DI (FC ρ) (Value.slice (some ⟨b,1,some j⟩) l.length AF::D9 b (j+1) L)=_;simp only[DI,h1,Ms hb (j+1) L];rfl
theorem I5 {ρ:Ren} {b c:Nat} {L:List (List (EK.C AR))} {ro:Bool} (hb:ρ b=some c):BV ρ (.vec [.tok] (AP b L) ro)=some (.vec [.tok] (AP c L) ro):=Mm (Ms hb 0 L)
theorem cW {X:Ctx} {f:FuncId} {Q:Value->AA->Prop} {nt:Nat} {args:List Value} {cfg:List Int} {m:AB} {n:Nat} {L:List (List (EK.C AR))} (hN:Aq X 12 (fun b=>9<=b/\b < 12) f Q (st f nt args (Q0 cfg m n L (AP 12 L)))):Aq X 12 (fun b=>9<=b/\b < 12) f Q (st f nt args (TQ cfg m n L)):=by
 refine Aq.opened (b:=11) (s:= .Co L) (ro:=false) ⟨by omega,by omega⟩ (by show(TQ cfg m n L).get 11=_;kernel_rfl) (fun ops p k h=>by cases h) fun objs hr=>?_
 cases hr with
 | Co=>
  refine⟨_,Hn (H:=TQ cfg m n L) (b:=11) (ro:=false) (o:= .vec [.tok] (AP 1 L) false) (o1:= .vec [.tok] (AP 12 L) false) (p:= .abs (.mem [.str,.str] (L.map some)) false) (p1:= .abs (.mem [.str,.str] (L.map some)) false) (show 11 < 12 by decide) (Ys cfg m n L) (I5 (ρ:=EN 11 12 2) rfl) rfl,?_⟩;rw[Xu];exact hN
theorem PK (b:Nat) (L:List (List (EK.C AR))) (ro:Bool):Eu (.vec [.tok] (AP b L) ro)=List.replicate L.length b:=KF b 0 L
theorem bX {D:Nat->Prop} {v:Value} {H:AA} {cfg:List Int} {m:AB} {n:Nat} {L:List (List (EK.C AR))} {y z:Nat} (hD:D 9) (hL:L≠[]) (h:YZ cfg m n L y z H):
 ∃H2,CE D v H H2/\H2.get 9=some (.cells (OE cfg 10 y (n+1)) 0 false)/\H2.get 10=some (.abs (.pack (.model m)) false)/\H2.get y=some (.abs (.pack (.Co L)) false):=by
 have hnd:=h.nd;simp only[List.nodup_cons,List.mem_cons,List.not_mem_nil,or_false,not_or,List.nodup_nil,and_true,not_false_eq_true]at hnd;obtain⟨⟨n1,n2,n3⟩,⟨n4,n5⟩,n6⟩:=hnd;have s1:=B6 (s:= .Co L) (bs:=[y,z]) (H:=H) (by simp[n6]);obtain⟨q,hq⟩:∃q,L.length=q+1:=⟨L.length - 1,by have:=List.length_pos_iff.2 hL;omega⟩
 have hR:∀x,x=y∨x=z->x∈Am H 0 200 [9] []:=by
  intro x hx;rw[As h.g9 rfl];show x∈Am H 0 199 [10,y] [9];rw[As h.IB rfl];show x∈Am H 0 198 [y] [9,10];rw[As h.gy (by simp[L6 (Ne.symm n2),L6 (Ne.symm n4)]),PK,hq];show x∈Am H 0 197 (z::(List.replicate q z++[])) [9,10,y];rw[As h.ga (by simp[L6 (Ne.symm n3),L6 (Ne.symm n5),L6 (Ne.symm n6)])];exact Bf H 0 _ _ _ x (by rcases hx with rfl | rfl<;>simp)
 refine⟨DE (.Co L) [y,z] H,OA (s:= .Co L) (b:=y) (n:=z) (rs:=[9]) (o1:= .vec [.tok] (AP z L) false) (p1:= .abs (.mem [.str,.str] (L.map some)) false) (.Co L) (fun b hb=>by rw[List.mem_singleton]at hb;subst hb;exact .inr hD) (hR y (.inl rfl)) (hR z (.inr rfl)) (Ne.symm n6) h.gy rfl rfl (I5 rfl) h.ga rfl rfl rfl (.refl _) rfl (fun T hv=>?_),?_,?_,s1.root y rfl⟩
 ·have:=hv.1;have e:=congrArg List.length this;rw[Cd,hq]at e;cases e
 ·rw[s1.C2 9 (by simp[n2,n3])];exact h.g9
 ·rw[s1.C2 10 (by simp[n4,n5])];exact h.IB
def A3 (L:List (List (EK.C AR))):List (EK.C AR):=(L[L.length - 1]?).getD []
structure S5 (cfg:List Int) (m:AB) (L:List (List (EK.C AR))) (kind key val:Int):Prop where
 inv:∃i,i<=140/\Fl cfg m (L.length - 1) (A3 L) i
 ne:L≠[]
 b:DJ kind/\DJ key/\DJ val
def Gg (cfg:List Int) (L:List (List (EK.C AR))) (kind key val:Int):List (List (EK.C AR)):=JU L (A3 L) (aK kind) (aS kind key) (aV kind val) (Cc cfg (A3 L) (aK kind) (aS kind key) (aV kind val)).2.2
theorem Qr {cfg:List Int} {L:List (List (EK.C AR))} {kind key val:Int} (hL:L≠[]):Gg cfg L kind key val≠[]/\(Gg cfg L kind key val).length=Tk (L.length - 1) (aK kind) (Cc cfg (A3 L) (aK kind) (aS kind key) (aV kind val)).2.2+1:=by
 have h:=List.length_pos_iff.2 hL;unfold Gg JU Tk;cases aK kind==4
 ·cases (Cc cfg (A3 L) (aK kind) (aS kind key) (aV kind val)).2.2
  ·exact⟨hL,by simp only[cond_false];omega⟩
  ·exact⟨by simp,by simp only[cond_true,cond_false,List.length_append,List.length_singleton];omega⟩
 ·exact⟨by simp,rfl⟩
def UM (args:List Value) (objs:List AK):GT:=
 match args,objs with
 | [.pointer (some ⟨9,0,none⟩),.agg ⟨[.int .u8 kind,.int .u8 key,.int .u8 val]⟩],[.cells [.pointer (some ⟨10,0,none⟩),.int .i64 c0,.int .i64 c1,.int .i64 c2,.int .i64 c3,.int .i64 c4,.int .i64 c5,.int .i64 c6,.slice (some ⟨11,0,some 0⟩) nn cap] 0 _,.abs (.pack (.model m)) _,.abs (.pack (.Co L)) _]=>
  .ask ((nn=L.length/\cap=AF)/\S5 [c0,c1,c2,c3,c4,c5,c6] m L kind key val) (.test (Rm [c0,c1,c2,c3,c4,c5,c6] (A3 L) kind key val)
   (.ret ⟨.bool true,[some (.cells (OE [c0,c1,c2,c3,c4,c5,c6] 10 11 L.length) 0 false),some (.abs (.pack (.model (dI [c0,c1,c2,c3,c4,c5,c6] m (A3 L) kind key val))) false),some (.abs (.pack (.Co L)) false)],[]⟩)
   (.ret ⟨.bool true,[some (.cells (OE [c0,c1,c2,c3,c4,c5,c6] 10 12 (Gg [c0,c1,c2,c3,c4,c5,c6] L kind key val).length) 0 false),some (.abs (.pack (.model (dI [c0,c1,c2,c3,c4,c5,c6] m (A3 L) kind key val))) false),none],
    [.abs (.pack (.Co (Gg [c0,c1,c2,c3,c4,c5,c6] L kind key val))) false]⟩))
 | _,_=> .fail
theorem Xr:C3 Tryz.prog AL AO (Al AL 9 [true,true,true] UM):=by
 refine BY fL (by kernel_rfl) (n:=116) (by kernel_rfl) (by kernel_rfl) fun argsc objs x hx hro=>?_
 unfold UM at hx;split at hx
 ·rename_i kind key val c0 c1 c2 c3 c4 c5 c6 nn cap r0 m r1 L r2;simp only[GT.run]at hx;split at hx
  ·rename_i hok;obtain⟨⟨rfl,rfl⟩,⟨i,hi,hinv⟩,hne,hb⟩:=hok;have e0:r0=false:=hro 0 _ rfl rfl;have e1:r1=false:=hro 1 _ rfl rfl;have e2:r2=false:=hro 2 _ rfl rfl;subst e0 e1 e2;have hpos:=List.length_pos_iff.2 hne;have hlen:L.length=L.length - 1+1:=by omega
   have hM:L[L.length - 1]? = some (A3 L):=by
    unfold A3;rw[List.getElem?_eq_getElem (by omega)];rfl
   have hn150:L.length - 1<=150:=by have:=hinv.Iu;omega
   generalize hcfg:[c0,c1,c2,c3,c4,c5,c6]=cfg at *;have hroot:AK.cells [.pointer (some ⟨10,0,none⟩),.int .i64 c0,.int .i64 c1,.int .i64 c2,.int .i64 c3,.int .i64 c4,.int .i64 c5,.int .i64 c6,.slice (some ⟨11,0,some 0⟩) L.length AF] 0 false= .cells (OE cfg 10 11 (L.length - 1+1)) 0 false:=by rw[<-hcfg,<-hlen];rfl
   refine⟨by simp,?_⟩;rw[hroot];show Aq H0 12 (fun b=>9<=b/\b < 12) AO _ (st AO 116 [p9,.agg ⟨[.int .u8 kind,.int .u8 key,.int .u8 val]⟩] (TQ cfg m (L.length - 1) L));obtain⟨hne2,hlen2⟩:=Qr (cfg:=cfg) (kind:=kind) (key:=key) (val:=val) hne;refine Aq.shut (cW (Aq.tell (Ad.lower (by decide) (Ya hinv hlen hM hb)).IC fun v H hq=>Tm (D:=fun b=>9<=b/\b < 12) ⟨by decide,by decide⟩ hlen hM hn150 hq)) ?_;rintro v H ⟨rfl,y,z,hK,hy1,hy2⟩;obtain⟨H2,k1,k2,k3,k4⟩:=bX (D:=fun b=>9<=b/\b < 9+3) (v:= .bool true) ⟨by decide,by decide⟩ hne2 hK;rw[<-hlen2]at k2;refine⟨H2,k1,?_⟩;cases hkeep:Rm cfg (A3 L) kind key val
   ·rw[hkeep]at hx;cases hx
    have hy:=hy2 hkeep;refine⟨[y],by simp,fun c hc=>by simp at hc;show 12<=c;omega,rfl,rfl,fun j c p hj hp=>?_,fun j o hj hm ho=>?_⟩
    ·cases j with
     | zero=>cases hj;cases hp;exact⟨_,rfl,k4⟩
     | succ j=>cases j<;>cases hj
    ·cases j with
     | zero=>cases ho;exact⟨_,rfl,k2⟩
     | succ j=>cases j with
      | zero=>cases ho;exact⟨_,rfl,k3⟩
      | succ j=>cases j with
       | zero=>cases ho
       | succ j=>exact absurd hj (by show ¬(j+3 < 3);omega)
   ·rw[hkeep]at hx;cases hx
    have hy:=hy1 hkeep;subst hy;have hkk:Gg cfg L kind key val=L:=by
     unfold Rm at hkeep;simp only[Bool.and_eq_true,Bool.not_eq_true']at hkeep;unfold Gg JU;rw[hkeep.1,hkeep.2];rfl
    rw[hkk]at k2;have k4:H2.get 11=some (.abs (.pack (.Co (Gg cfg L kind key val))) false):=k4;rw[hkk]at k4;refine⟨[],List.nodup_nil,(fun c hc=>by cases hc),rfl,rfl,(fun j c p hj hp=>by cases hj),fun j o hj hm ho=>?_⟩;cases j with
    | zero=>cases ho;exact⟨_,rfl,k2⟩
    | succ j=>cases j with
     | zero=>cases ho;exact⟨_,rfl,k3⟩
     | succ j=>cases j with
      | zero=>cases ho;exact⟨_,rfl,k4⟩
      | succ j=>exact absurd hj (by show ¬(j+3 < 3);omega)
  ·cases hx
 ·cases hx
theorem AT.gE {base:Env} {W0:World} {μ:Ai} {H:AA} {W:World} (h:AT base W0 μ H W) {a b e j:Nat} {ro:Bool} {x:Value} {pre post:List Value} {T:B7} (ha:μ a=some T) (hx:∀ν:Ai,Iv ν x)
 (hb:H.get b=some (.cells (pre++x::post) e ro)):AT base W0 μ (H.put b (.cells (pre++ .slice (some ⟨a,1,some j⟩) 0 AF::post) e ro)) W:=by
 refine h.swap hb (fun T' o' _ ho=>?_) rfl rfl rfl (fun _ _ hv=>hv);cases ho with
 | cells _ _ _ c t lo hi he hc hr hf=>
  refine .cells T' _ e ro c t lo hi he ?_ hr hf;have hc2:=GD (a1:= .slice (some ⟨a,1,some j⟩) 0 AF) (Ai.le_refl _) (fun v' hv=>by
   obtain⟨p,rfl⟩:=hx _ v' hv;exact .Er a j AF T p ha (.inr ⟨Nat.le_refl _,Nat.sub_self _⟩)) pre _ hc
  have e1:(pre++x::post).length=(pre++Value.slice (some ⟨a,1,some j⟩) 0 AF::post).length:=by simp
  rw[<-e1];exact hc2
def UN (args:List Value) (objs:List AK):GT:=
 match args,objs with
 | [.int .u8 slots],[]=> .ask (DJ slots) (.ret ⟨.pointer (some ⟨9,0,none⟩),[],[.cells (OE (Cg (Int.tmod slots 8)) 10 11 (0+1)) 0 false,.abs (.pack (.model (m0 (Int.tmod slots 8)))) false,.abs (.pack (.Co [[]])) false]⟩)
 | _,_=> .fail
theorem Xk:C3 Tryz.prog AL Bc (Al AL 9 [] UN):=by
 refine BY allM (by kernel_rfl) (n:=28) (by kernel_rfl) (by kernel_rfl) fun argsc objs x hx hro=>?_
 unfold UN at hx;split at hx
 ·rename_i slots;simp only[GT.run]at hx;split at hx
  ·rename_i hb;cases hx
   refine⟨by simp,?_⟩;show Aq XM 9 (fun b=>9<=b/\b < 9) Bc _ (st Bc 28 [.int .u8 slots] ⟨.leaf,9⟩);generalize hs:Int.tmod slots 8=s;refine Aq.shut (Q:=fun v H=>v=DW 30/\∃z1 z2,100<=z1/\100<=z2/\z1≠z2/\H.get 26=some (Bi [])/\H.get 27=some (Bi [])/\H.get 28=some (.cells (BN (m0 s) 26 27 (.slice (some ⟨z1,0,some 0⟩) 0 AF)) 0 false)/\H.get z1=some (.vec BL [] false)/\
    H.get 29=some (.vec [.tok] (AP z2 [[]]) false)/\H.get z2=some (.abs (.mem AR [some []]) false)/\H.get 30=some (.cells (OE (Cg s) 28 29 (0+1)) 0 false)) ((dA hb).IC.tell ?_) ?_
   ·rintro v H ⟨rfl,hh⟩;rw[hs]at hh;simp only[List.cons.injEq,and_true]at hh;obtain⟨g26,g27,g28,g29,g30⟩:=hh;have n1:=H.Dx;have e1:H.Br=max H.next 100:=rfl;generalize hH1:(H.CR BL).put 28 (.cells (BN (m0 s) 26 27 (.slice (some ⟨H.Br,0,some 0⟩) 0 AF)) 0 false)=H1;have e2:H1.next=max H.next 100+1:=by rw[<-hH1];rfl
    have n2:100<=H1.next:=by omega
    have hne:H.Br≠H1.next:=by omega
    have o1:∀y,y < 100->y≠28->H1.get y=H.get y:=fun y hy h28=>by rw[<-hH1,AA.AQ,if_neg h28,AA.CA,if_neg (by omega)]
    generalize hH2:(H1.alloc (.abs (.mem AR [some []]) false)).put 29 (.cells ([]++ .slice (some ⟨H1.next,1,some 0⟩) 0 AF::[]) 1 false)=H2;have o2:∀y,y≠H1.next->y≠29->H2.get y=H1.get y:=fun y hy h29=>by rw[<-hH2,AA.AQ,if_neg h29,AA.AW,if_neg hy]
    refine⟨_,(H2.put 29 (.vec [.tok] [Value.slice (some ⟨H1.next,1,some 0⟩) 0 AF] false)).put 30 (.cells ((OE (Cg s) 28 29 0).take 8++ .slice (some ⟨29,0,some 0⟩) 1 AF::[]) 0 false),fun base W0 μ W v' _ hv hH=>?_,rfl,H.Br,H1.next,n1,n2,hne,?_,?_,?_,?_,?_,?_,?_⟩
    ·have hT:=Up hv;obtain⟨μ2,a1,a2⟩:=hH.Kh (k:=BL) (pre:=(BN (m0 s) 26 27 (.slice none 0 0)).take 11) (post:=(BN (m0 s) 26 27 (.slice none 0 0)).drop 12) hT (fun _=>EV) g28 (by decide);have a3:AT base W0 μ2 H1 W:=by rw[<-hH1];exact a2
     obtain⟨T,hT⟩:=hT;have b1:=a3.ji AR (by decide) (a1 _ T hT);have hle:μ2.le _:=Ai.DU ⟨T.c,0,0,C1 [⟨T.c,0,0,AR.length⟩]⟩ (a3.fresh _ (Nat.le_refl _)).2;have b2:=b1.gE (b:=29) (j:=0) (pre:=[]) (post:=[]) (e:=1) (ro:=false) (Ai.Av _ _ _) (fun _=>EV) (by rw[AA.AW,if_neg (by omega),o1 29 (by decide) (by decide)];exact g29);rw[hH2]at b2;have b3:=b2.Mu (k:=[.tok]) (l:=[Value.slice (some ⟨H1.next,1,some 0⟩) 0 AF]) (ro:=false) (b:=29) (by rw[HV,<-hH2,AA.AQ,if_pos rfl];rfl);refine⟨_,Ai.le_trans a1 hle,b3.Q3 (n:=29) (len:=1) (cap:=1) (l:=[Value.slice (some ⟨H1.next,1,some 0⟩) 0 AF]) (ro2:=false) ?_ (by rw[AA.AQ,if_pos rfl]) (by decide) (by decide) (Nat.le_refl 1) (by decide),(hv.mono a1).mono hle⟩;rw[AA.AQ,if_neg (by decide),o2 30 (by omega) (by decide),o1 30 (by decide) (by decide)];exact g30
    ·rw[AA.AQ,if_neg (by decide),AA.AQ,if_neg (by decide),o2 26 (by omega) (by decide),o1 26 (by decide) (by decide)];exact g26
    ·rw[AA.AQ,if_neg (by decide),AA.AQ,if_neg (by decide),o2 27 (by omega) (by decide),o1 27 (by decide) (by decide)];exact g27
    ·rw[AA.AQ,if_neg (by decide),AA.AQ,if_neg (by decide),o2 28 (by omega) (by decide),<-hH1,AA.AQ,if_pos rfl]
    ·rw[AA.AQ,if_neg (by omega),AA.AQ,if_neg (by omega),o2 _ hne (by omega),<-hH1,AA.AQ,if_neg (by omega),AA.CA,if_pos rfl]
    ·rw[AA.AQ,if_neg (by decide),AA.AQ,if_pos rfl];rfl
    ·rw[AA.AQ,if_neg (by omega),AA.AQ,if_neg (by omega),<-hH2,AA.AQ,if_neg (by omega),AA.AW,if_pos rfl]
    ·rw[AA.AQ,if_pos rfl];rfl
   ·rintro v H ⟨rfl,z1,z2,n1,n2,hne,g26,g27,g28,gz1,g29,gz2,g30⟩;have hnd:[28,26,27,z1].Nodup:=by
     simp only[List.nodup_cons,List.mem_cons,List.not_mem_nil,or_false,not_or,List.nodup_nil,and_true,not_false_eq_true];omega
    have s1:=B6 (s:= .model (m0 s)) (bs:=[28,26,27,z1]) (H:=H) hnd;generalize hH2:DE (.model (m0 s)) [28,26,27,z1] H=H2 at s1;have C2:∀y,y∉[28,26,27,z1]->H2.get y=H.get y:=fun y hy=>s1.C2 y hy
    have k30:H2.get 30=some (.cells (OE (Cg s) 28 29 (0+1)) 0 false):=by rw[C2 30 (by simp;omega)];exact g30
    have k29:H2.get 29=some (.vec [.tok] (AP z2 [[]]) false):=by rw[C2 29 (by simp;omega)];exact g29
    have kz2:H2.get z2=some (.abs (.mem AR [some []]) false):=by rw[C2 z2 (by simp;omega)];exact gz2
    have k28:H2.get 28=some (.abs (.pack (.model (m0 s))) false):=s1.root 28 rfl;have hrs:∀b∈[30],b∈Af 4 (DW 30)∨(9<=b/\b < 9+([]:List AK).length):=fun b hb=>by rw[List.mem_singleton]at hb;subst hb;exact .inl (by simp[Af,DW])
    have hR1:∀x∈[28,26,27,z1],x∈Am H 0 200 [30] []:=by
     intro x hx;rw[As g30 rfl];show x∈Am H 0 199 [28,29] [30];rw[As g28 rfl];show x∈Am H 0 198 [26,27,z1,29] [30,28];rw[As g26 rfl];show x∈Am H 0 197 [27,z1,29] [30,28,26];rw[As g27 rfl];show x∈Am H 0 196 [z1,29] [30,28,26,27];rw[As gz1 (by simp[L6 (show z1≠30 by omega),L6 (show z1≠28 by omega),L6 (show z1≠26 by omega),L6 (show z1≠27 by omega)])];refine Bf H 0 _ _ _ x ?_;simp only[List.mem_cons,List.not_mem_nil,or_false]at hx;rcases hx with rfl | rfl | rfl | rfl<;>simp
    have hR2:∀x∈[29,z2],x∈Am H2 0 200 [30] []:=by
     intro x hx;rw[As k30 rfl];show x∈Am H2 0 199 [28,29] [30];rw[As k28 rfl];show x∈Am H2 0 198 [29] [30,28];rw[As k29 rfl,PK];show x∈Am H2 0 197 [z2] [30,28,29];rw[As kz2 (by simp[L6 (show z2≠30 by omega),L6 (show z2≠28 by omega),L6 (show z2≠29 by omega)])];refine Bf H2 0 _ _ _ x ?_;simp only[List.mem_cons,List.not_mem_nil,or_false]at hx;rcases hx with rfl | rfl<;>simp
    have s2:=B6 (s:= .Co [[]]) (bs:=[29,z2]) (H:=H2) (by simp;omega);refine⟨DE (.Co [[]]) [29,z2] H2,?_,?_⟩
    ·refine .step (.model (m0 s)) _ [28,26,27,z1] [30] (.model (m0 s)) (by simp) rfl hnd hrs hR1 (fun i b o hi ho=>?_) (fun o T ho=>by cases ho;exact id) ?_
     ·match i,hi,ho with
      | 0,hi,ho=>cases hi;cases ho;exact⟨_,g28,rfl,rfl,rfl⟩
      | 1,hi,ho=>cases hi;cases ho;exact⟨_,g26,rfl,rfl,rfl⟩
      | 2,hi,ho=>cases hi;cases ho;exact⟨_,g27,rfl,rfl,rfl⟩
      | 3,hi,ho=>cases hi;cases ho;exact⟨_,gz1,rfl,rfl,rfl⟩
      | i+4,hi,ho=>cases hi
     ·rw[hH2];exact OA (s:= .Co [[]]) (b:=29) (n:=z2) (rs:=[30]) (o:= .vec [.tok] (AP 1 [[]]) false) (o1:= .vec [.tok] (AP z2 [[]]) false) (p1:= .abs (.mem AR [some []]) false) (.Co [[]]) hrs (hR2 29 (by simp)) (hR2 z2 (by simp)) (by omega) k29 rfl rfl (I5 rfl) kz2 rfl rfl rfl (.refl _) rfl (fun T hv=>by cases hv.1)
    ·refine⟨[30,28,29],by decide,(fun c hc=>by simp at hc;show 9<=c;omega),rfl,rfl,fun j c p hj hp=>?_,fun j o hj=>absurd hj (by show ¬(j < 0);omega)⟩
     match j,hj,hp with
     | 0,hj,hp=>cases hj;cases hp;exact⟨_,rfl,by rw[s2.C2 30 (by simp;omega)];exact k30⟩
     | 1,hj,hp=>cases hj;cases hp;exact⟨_,rfl,by rw[s2.C2 28 (by simp;omega)];exact k28⟩
     | 2,hj,hp=>cases hj;cases hp;exact⟨_,rfl,s2.root 29 rfl⟩
     | j+3,hj,hp=>cases hj
  ·cases hx
 ·cases hx
theorem cy (l:List (EK.C AR)) (del:Bool) (key val:ByteArray) (Q:Value->List (Option AK)->Prop):Ex XM VV B8 [9] Q 200 (st B8 16 [.agg ⟨[.bool del,.string key,.string val]⟩,p9] (BH ⟨.leaf,9⟩ [.abs (.pack (.table l)) false]))=(
 (bif del then(Aw.ok Jt l [Value.string key])/\(Q (.tuple ⟨[]⟩) [some (.abs (Ab.pack (Pk.table (Aw.nx Jt l [Value.string key]))) false)])else(Aw.ok J2 l [Value.string key,Value.string val])/\(Q (.tuple ⟨[]⟩) [some (.abs (Ab.pack (Pk.table (Aw.nx J2 l [Value.string key,Value.string val]))) false)]))):=by kernel_rfl
abbrev vc_waits_0 (m:AB):AK:=(.cells [(.int .i64 (List.getD (AB.cfg m) 0 0)),(.int .i64 (List.getD (AB.cfg m) 1 0)),(.int .i64 (List.getD (AB.cfg m) 2 0)),(.int .i64 (List.getD (AB.cfg m) 3 0)),(.int .i64 (List.getD (AB.cfg m) 4 0)),(.int .i64 (List.getD (AB.cfg m) 5 0)),(.int .i64 (List.getD (AB.cfg m) 6 0)),(.int .i64 (AB.AN m)),(p_ 10),(p_ 11),(.int .i64 (AB.cost m)),(.slice (some ⟨12,0,(some 0)⟩) (List.length (AB.AJ m)) 18446744073709551616),(.pointer none),(.int .i64 (AB.state m)),(.bool (AB.AG m))] 0 false)
theorem YC (m:AB) (Q:Value->List (Option AK)->Prop):Ex XM VV BO [9,10,11,12] Q 100 (st BO 12 [p9] (BH ⟨.leaf,9⟩ (MS m)))=(
 (bif AB.state m==2 then(Q (.bool true) [some (vc_waits_0 m),some (.abs (Ab.pack (Pk.table (AB.base m))) false),some (.abs (Ab.pack (Pk.table (AB.now m))) false),some (.vec BL (AB.AJ m) false)])else(Q (.bool false) [some (vc_waits_0 m),some (.abs (Ab.pack (Pk.table (AB.base m))) false),some (.abs (Ab.pack (Pk.table (AB.now m))) false),some (.vec BL (AB.AJ m) false)]))):=by kernel_rfl
def kW (l:List (EK.C AR)) (ks vs:List (EK.C kS)):AA:=BH ⟨.leaf,9⟩ [CS 12 l.length,.vec kS ks true,.vec kS vs true,.vec AR l false]
def iO (ks vs:List (EK.C kS)):AA:=BH ⟨.leaf,9⟩ [.cells [.bool true,.slice none 0 0] 0 false,.vec kS ks true,.vec kS vs true]
def gQ (l:List (EK.C AR)) (ks vs:List (EK.C kS)) (i j:Int):A8:=
 ⟨⟨Ao,Gr [(2,.func (.yield 14) ⟨[]⟩ ⟨[]⟩),(11,.slice (some ⟨12,0,some 0⟩) l.length AF),(12,.int .i64 l.length),(13,.int .i64 i)],25,[.code (BI Tryz.prog Ao [1,0,0]),.inLoop (BI Tryz.prog Ao [1,0,0]),.inBlock 0],[],false,.normal,none⟩,
  [⟨BA,Gr [],6,[IG (BI Tryz.prog BA []) 2],[],false,.normal,none⟩,
   ⟨BQ,Gr [(4,DW 17),(5,DW 16),(6,DW 18),(7,DW 15)],35,[.inRangeFunc 14,.inBlock 0,.code (BI Tryz.prog BQ [1,1,1,1])],[⟨.collected 13,⟨[]⟩⟩],false,.normal,none⟩],
  BH ⟨.leaf,9⟩ [CS 12 l.length,.vec kS ks true,.vec kS vs true,.vec AR l false,.deferred (some []),
   .loop ⟨.ready,none,BQ,Gr [(4,DW 17),(5,DW 16),(6,DW 18),(7,DW 15)],35,#[17,18],BI Tryz.prog BQ [1,1,1,0,1,0,0],BI Tryz.prog BQ [1,1,1,0,1,0,1],13⟩,
   .cells [.int .i64 j] 0 false,.cells [CT 11 vs.length] 0 false,.cells [CT 10 ks.length] 0 false,.cells [.bool false] 0 false]⟩
def jL:Stop:=⟨Ao,2,2,12,[9,10,11],[2,11,12,13]⟩
def jD:List (FuncId × List Nat):=[(BA,[]),(BQ,[4,5,6,7])]
theorem fS (l:List (EK.C AR)) (ks vs:List (EK.C kS)) (Q:Value->List (Option AK)->Prop) (R:A8->Prop):cA X0 C4 BQ [9,10,11,12] jL jD Q R 600 (st BQ 35 [p9,CT 10 ks.length,CT 11 vs.length] (kW l ks vs))=(
 (((.int .i64 (Int.ofNat (List.length ks))):Value)=(.int .i64 (Int.ofNat (List.length ks))))/\(((.slice (some ⟨10,0,(some 0)⟩) (List.length ks) 18446744073709551616):Value)=(.slice (some ⟨10,0,(some 0)⟩) (List.length ks) 18446744073709551616))/\(bif Int.ofNat (List.length l) != Int.ofNat (List.length ks)then(Q (.bool false) [some (.cells [(.bool true),(.slice (some ⟨12,0,(some 0)⟩) (List.length l) 18446744073709551616)] 0 false),some (.vec kS ks true),some (.vec kS vs true),some (.vec AR l false)])else(bif decide (0<=Int.ofNat (List.length l))&&Nat.ble (Int.toNat (Int.ofNat (List.length l))) (List.length l)&&decide (0<=0)&&Nat.ble 0 (Int.toNat (Int.ofNat (List.length l)))then(R (gQ l ks vs 0 0))else False))):=by kernel_rfl
theorem dN (l:List (EK.C AR)) (ks vs:List (EK.C kS)) (i j:Int) (Q:Value->List (Option AK)->Prop) (R:A8->Prop):cA X0 C4 BQ [9,10,11,12] jL jD Q R 600 (gQ l ks vs i j)=(
 (bif decide (i < ((List.length l):Int))then(bif decide (0<=i)&&Nat.blt (Int.toNat i) (List.length l)then(bif Nat.blt (0+Int.toNat i) (List.length l)then(bif decide (0<=j)&&Nat.blt (Int.toNat j) (List.length ks)then(bif Nat.blt (0+Int.toNat j) (List.length ks)then(bif !ByteArray.toList (List.getD ks (0+Int.toNat j) (EK.AZ kS))==ByteArray.toList (Prod.fst (List.getD l (0+Int.toNat i) (EK.AZ AR)))then(Q (.bool false) [some (.cells [(.bool true),(.slice (some ⟨12,0,(some 0)⟩) (List.length l) 18446744073709551616)] 0 false),some (.vec kS ks true),some (.vec kS vs true),some (.vec AR l false)])else(bif decide (0<=j)&&Nat.blt (Int.toNat j) (List.length vs)then(bif Nat.blt (0+Int.toNat j) (List.length vs)then(bif !ByteArray.toList (List.getD vs (0+Int.toNat j) (EK.AZ kS))==ByteArray.toList (Prod.snd (List.getD l (0+Int.toNat i) (EK.AZ AR)))then(Q (.bool false) [some (.cells [(.bool true),(.slice (some ⟨12,0,(some 0)⟩) (List.length l) 18446744073709551616)] 0 false),some (.vec kS ks true),some (.vec kS vs true),some (.vec AR l false)])else(R (gQ l ks vs (IntKind.wrap .i64 (i+1)) (IntKind.wrap .i64 (j+1)))))else False)else False))else False)else False)else False)else False)else(Q (.bool true) [some (.cells [(.bool true),(.slice (some ⟨12,0,(some 0)⟩) (List.length l) 18446744073709551616)] 0 false),some (.vec kS ks true),some (.vec kS vs true),some (.vec AR l false)]))):=by kernel_rfl
theorem fF (ks vs:List (EK.C kS)) (Q:Value->List (Option AK)->Prop):Ex X0 C4 BQ [9,10,11] Q 600 (st BQ 35 [p9,CT 10 ks.length,CT 11 vs.length] (iO ks vs))=(
 (((.int .i64 (Int.ofNat (List.length ks))):Value)=(.int .i64 (Int.ofNat (List.length ks))))/\(((.slice (some ⟨10,0,(some 0)⟩) (List.length ks) 18446744073709551616):Value)=(.slice (some ⟨10,0,(some 0)⟩) (List.length ks) 18446744073709551616))/\(bif 0 != Int.ofNat (List.length ks)then(Q (.bool false) [some (.cells [(.bool true),(.slice none 0 0)] 0 false),some (.vec kS ks true),some (.vec kS vs true)])else(Q (.bool true) [some (.cells [(.bool true),(.slice none 0 0)] 0 false),some (.vec kS ks true),some (.vec kS vs true)]))):=by kernel_rfl
abbrev jP:List (FuncId × Cn):=[(Ac,Se.F)]
def fG:Ctx:=Cx Tryz.prog AL jP
def So:Pf:=fun g=>bif Nat.beq g Ac then some cG else bif Nat.beq g J1 then some (fun _ _ _=>False)else C4 g
def gS (c0 c1 c2 c3 c4 c5 c6 lim:Int) (bs nw:List (ByteArray × ByteArray)) (cost:Int) (AJ:List (Bool × ByteArray × ByteArray)) (st:Int) (pl:Bool):List AK:=
 [.cells [.int .i64 c0,.int .i64 c1,.int .i64 c2,.int .i64 c3,.int .i64 c4,.int .i64 c5,.int .i64 c6,.int .i64 lim,.pointer (some ⟨10,0,none⟩),.pointer (some ⟨11,0,none⟩),.int .i64 cost,.slice (some ⟨12,0,some 0⟩) AJ.length AF,.pointer none,.int .i64 st,.bool pl] 0 false,
  .abs (.pack (.table bs)) false,.abs (.pack (.table nw)) false,.vec BL AJ false]
theorem fU (c0 c1 c2 c3 c4 c5 c6 lim:Int) (bs nw:List (ByteArray × ByteArray)) (cost:Int) (AJ:List (Bool × ByteArray × ByteArray)) (pl:Bool) (k a b:Int) (key val:ByteArray) (e:Int) (sv:ByteArray) (Q:Value->List (Option AK)->Prop):Ex fG So AX [9,10,11,12] Q 2000 (st AX 66 [p9,E2 k a b key val,IK e sv] (BH ⟨.leaf,9⟩ (gS c0 c1 c2 c3 c4 c5 c6 lim bs nw cost AJ 2 pl)))=(
 (Q (.int .i64 7) [some (.cells [(.int .i64 c0),(.int .i64 c1),(.int .i64 c2),(.int .i64 c3),(.int .i64 c4),(.int .i64 c5),(.int .i64 c6),(.int .i64 lim),(p_ 10),(p_ 11),(.int .i64 cost),(.slice (some ⟨12,0,(some 0)⟩) (List.length AJ) 18446744073709551616),(.pointer none),(.int .i64 2),(.bool pl)] 0 false),some (.abs (Ab.pack (Pk.table bs)) false),some (.abs (Ab.pack (Pk.table nw)) false),some (.vec BL AJ false)])):=by kernel_rfl
abbrev vc_do1_0 (c0:Int) (c1:Int) (c2:Int) (c3:Int) (c4:Int) (c5:Int) (c6:Int) (lim:Int) (cost:Int) (AJ:List (Bool × ByteArray × ByteArray)):AK:=(.cells [(.int .i64 c0),(.int .i64 c1),(.int .i64 c2),(.int .i64 c3),(.int .i64 c4),(.int .i64 c5),(.int .i64 c6),(.int .i64 lim),(p_ 10),(p_ 11),(.int .i64 cost),(.slice (some ⟨12,0,(some 0)⟩) (List.length AJ) 18446744073709551616),(.pointer none),(.int .i64 1),(.bool false)] 0 false)
abbrev vc_do1_1 (c0:Int) (c1:Int) (c2:Int) (c3:Int) (c4:Int) (c5:Int) (c6:Int) (lim:Int) (cost:Int) (AJ:List (Bool × ByteArray × ByteArray)):AK:=(.cells [(.int .i64 c0),(.int .i64 c1),(.int .i64 c2),(.int .i64 c3),(.int .i64 c4),(.int .i64 c5),(.int .i64 c6),(.int .i64 lim),(p_ 10),(p_ 11),(.int .i64 cost),(.slice (some ⟨12,0,(some 0)⟩) (List.length AJ) 18446744073709551616),(.pointer none),(.int .i64 1),(.bool true)] 0 false)
abbrev vc_do1_2 (c0:Int) (c1:Int) (c2:Int) (c3:Int) (c4:Int) (c5:Int) (c6:Int) (lim:Int) (cost:Int) (AJ:List (Bool × ByteArray × ByteArray)) (pl:Bool):AK:=(.cells [(.int .i64 c0),(.int .i64 c1),(.int .i64 c2),(.int .i64 c3),(.int .i64 c4),(.int .i64 c5),(.int .i64 c6),(.int .i64 lim),(p_ 10),(p_ 11),(.int .i64 cost),(.slice (some ⟨12,0,(some 0)⟩) (List.length AJ) 18446744073709551616),(.pointer none),(.int .i64 1),(.bool pl)] 0 false)
theorem dw (c0 c1 c2 c3 c4 c5 c6 lim:Int) (bs nw:List (ByteArray × ByteArray)) (cost:Int) (AJ:List (Bool × ByteArray × ByteArray)) (pl:Bool) (k a b:Int) (key val:ByteArray) (e:Int) (sv:ByteArray) (Q:Value->List (Option AK)->Prop):Ex fG So AX [9,10,11,12] Q 2000 (st AX 66 [p9,E2 k a b key val,IK e sv] (BH ⟨.leaf,9⟩ (gS c0 c1 c2 c3 c4 c5 c6 lim bs nw cost AJ 1 pl)))=(
 (Fe k a b key val)/\(bif Hh k a b key val != 0 then(bif e==2&&(ByteArray.toList sv==ByteArray.toList e_&&true)then(Q (.int .i64 0) [some (vc_do1_2 c0 c1 c2 c3 c4 c5 c6 lim cost AJ pl),some (.abs (Ab.pack (Pk.table bs)) false),some (.abs (Ab.pack (Pk.table nw)) false),some (.vec BL AJ false)])else(Q (.int .i64 7) [some (vc_do1_2 c0 c1 c2 c3 c4 c5 c6 lim cost AJ pl),some (.abs (Ab.pack (Pk.table bs)) false),some (.abs (Ab.pack (Pk.table nw)) false),some (.vec BL AJ false)]))else(bif k==7 then(bif e==0&&(ByteArray.toList sv==ByteArray.toList e_&&true)then(bif a==0 then(bif decide (a > 0)then(Q (.int .i64 0) [some (vc_do1_1 c0 c1 c2 c3 c4 c5 c6 lim cost AJ),some (.abs (Ab.pack (Pk.table bs)) false),some (.abs (Ab.pack (Pk.table nw)) false),some (.vec BL AJ false)])else(Q (.int .i64 0) [some (vc_do1_0 c0 c1 c2 c3 c4 c5 c6 lim cost AJ),some (.abs (Ab.pack (Pk.table bs)) false),some (.abs (Ab.pack (Pk.table nw)) false),some (.vec BL AJ false)]))else(bif decide (a > 0)then(Q (.int .i64 0) [some (vc_do1_1 c0 c1 c2 c3 c4 c5 c6 lim cost AJ),some (.abs (Ab.pack (Pk.table bs)) false),some (.abs (Ab.pack (Pk.table nw)) false),some (.vec BL AJ false)])else(Q (.int .i64 0) [some (vc_do1_0 c0 c1 c2 c3 c4 c5 c6 lim cost AJ),some (.abs (Ab.pack (Pk.table bs)) false),some (.abs (Ab.pack (Pk.table nw)) false),some (.vec BL AJ false)])))else(Q (.int .i64 7) [some (vc_do1_2 c0 c1 c2 c3 c4 c5 c6 lim cost AJ pl),some (.abs (Ab.pack (Pk.table bs)) false),some (.abs (Ab.pack (Pk.table nw)) false),some (.vec BL AJ false)]))else(bif k != 8 then(bif e==13&&(ByteArray.toList sv==ByteArray.toList e_&&true)then(Q (.int .i64 0) [some (vc_do1_2 c0 c1 c2 c3 c4 c5 c6 lim cost AJ pl),some (.abs (Ab.pack (Pk.table bs)) false),some (.abs (Ab.pack (Pk.table nw)) false),some (.vec BL AJ false)])else(Q (.int .i64 7) [some (vc_do1_2 c0 c1 c2 c3 c4 c5 c6 lim cost AJ pl),some (.abs (Ab.pack (Pk.table bs)) false),some (.abs (Ab.pack (Pk.table nw)) false),some (.vec BL AJ false)]))else(bif e==0&&(ByteArray.toList sv==ByteArray.toList e_&&true)then(Q (.int .i64 0) [some (.cells [(.int .i64 c0),(.int .i64 c1),(.int .i64 c2),(.int .i64 c3),(.int .i64 c4),(.int .i64 c5),(.int .i64 c6),(.int .i64 lim),(p_ 10),(p_ 11),(.int .i64 cost),(.slice (some ⟨12,0,(some 0)⟩) (List.length AJ) 18446744073709551616),(.pointer none),(.int .i64 2),(.bool pl)] 0 false),some (.abs (Ab.pack (Pk.table bs)) false),some (.abs (Ab.pack (Pk.table nw)) false),some (.vec BL AJ false)])else(bif pl then(bif !(e==13&&(ByteArray.toList sv==ByteArray.toList e_&&true))then(Q (.int .i64 7) [some (vc_do1_1 c0 c1 c2 c3 c4 c5 c6 lim cost AJ),some (.abs (Ab.pack (Pk.table bs)) false),some (.abs (Ab.pack (Pk.table nw)) false),some (.vec BL AJ false)])else(Q (.int .i64 0) [some (vc_do1_0 c0 c1 c2 c3 c4 c5 c6 lim cost AJ),some (.abs (Ab.pack (Pk.table bs)) false),some (.abs (Ab.pack (Pk.table nw)) false),some (.vec BL AJ false)]))else(Q (.int .i64 7) [some (vc_do1_0 c0 c1 c2 c3 c4 c5 c6 lim cost AJ),some (.abs (Ab.pack (Pk.table bs)) false),some (.abs (Ab.pack (Pk.table nw)) false),some (.vec BL AJ false)]))))))):=by kernel_rfl
abbrev vc_do0_0 (c0:Int) (c1:Int) (c2:Int) (c3:Int) (c4:Int) (c5:Int) (c6:Int) (lim:Int) (cost:Int) (AJ:List (Bool × ByteArray × ByteArray)) (pl:Bool):AK:=(.cells [(.int .i64 c0),(.int .i64 c1),(.int .i64 c2),(.int .i64 c3),(.int .i64 c4),(.int .i64 c5),(.int .i64 c6),(.int .i64 lim),(p_ 10),(p_ 11),(.int .i64 cost),(.slice (some ⟨12,0,(some 0)⟩) (List.length AJ) 18446744073709551616),(.pointer none),(.int .i64 0),(.bool pl)] 0 false)
theorem fk (c0 c1 c2 c3 c4 c5 c6 lim:Int) (bs nw:List (ByteArray × ByteArray)) (cost:Int) (AJ:List (Bool × ByteArray × ByteArray)) (pl:Bool) (k a b:Int) (key val:ByteArray) (e:Int) (sv:ByteArray) (Q:Value->List (Option AK)->Prop):Ex fG So AX [9,10,11,12] Q 2000 (st AX 66 [p9,E2 k a b key val,IK e sv] (BH ⟨.leaf,9⟩ (gS c0 c1 c2 c3 c4 c5 c6 lim bs nw cost AJ 0 pl)))=(
 (Fe k a b key val)/\(bif Hh k a b key val != 0 then(bif e==2&&(ByteArray.toList sv==ByteArray.toList e_&&true)then(Q (.int .i64 0) [some (vc_do0_0 c0 c1 c2 c3 c4 c5 c6 lim cost AJ pl),some (.abs (Ab.pack (Pk.table bs)) false),some (.abs (Ab.pack (Pk.table nw)) false),some (.vec BL AJ false)])else(Q (.int .i64 7) [some (vc_do0_0 c0 c1 c2 c3 c4 c5 c6 lim cost AJ pl),some (.abs (Ab.pack (Pk.table bs)) false),some (.abs (Ab.pack (Pk.table nw)) false),some (.vec BL AJ false)]))else(bif k==7 then(bif e==0&&(ByteArray.toList sv==ByteArray.toList e_&&true)then(bif a==0 then(bif decide (a > 0)then(Q (.int .i64 0) [some (.cells [(.int .i64 c0),(.int .i64 c1),(.int .i64 c2),(.int .i64 c3),(.int .i64 c4),(.int .i64 c5),(.int .i64 c6),(.int .i64 lim),(p_ 10),(p_ 11),(.int .i64 cost),(.slice (some ⟨12,0,(some 0)⟩) (List.length AJ) 18446744073709551616),(.pointer none),(.int .i64 1),(.bool true)] 0 false),some (.abs (Ab.pack (Pk.table bs)) false),some (.abs (Ab.pack (Pk.table nw)) false),some (.vec BL AJ false)])else(Q (.int .i64 0) [some (.cells [(.int .i64 c0),(.int .i64 c1),(.int .i64 c2),(.int .i64 c3),(.int .i64 c4),(.int .i64 c5),(.int .i64 c6),(.int .i64 lim),(p_ 10),(p_ 11),(.int .i64 cost),(.slice (some ⟨12,0,(some 0)⟩) (List.length AJ) 18446744073709551616),(.pointer none),(.int .i64 1),(.bool false)] 0 false),some (.abs (Ab.pack (Pk.table bs)) false),some (.abs (Ab.pack (Pk.table nw)) false),some (.vec BL AJ false)]))else(bif decide (a > 0)then(Q (.int .i64 0) [some (.cells [(.int .i64 c0),(.int .i64 c1),(.int .i64 c2),(.int .i64 c3),(.int .i64 c4),(.int .i64 c5),(.int .i64 c6),(.int .i64 lim),(p_ 10),(p_ 11),(.int .i64 cost),(.slice (some ⟨12,0,(some 0)⟩) (List.length AJ) 18446744073709551616),(.pointer none),(.int .i64 0),(.bool true)] 0 false),some (.abs (Ab.pack (Pk.table bs)) false),some (.abs (Ab.pack (Pk.table nw)) false),some (.vec BL AJ false)])else(Q (.int .i64 0) [some (.cells [(.int .i64 c0),(.int .i64 c1),(.int .i64 c2),(.int .i64 c3),(.int .i64 c4),(.int .i64 c5),(.int .i64 c6),(.int .i64 lim),(p_ 10),(p_ 11),(.int .i64 cost),(.slice (some ⟨12,0,(some 0)⟩) (List.length AJ) 18446744073709551616),(.pointer none),(.int .i64 0),(.bool false)] 0 false),some (.abs (Ab.pack (Pk.table bs)) false),some (.abs (Ab.pack (Pk.table nw)) false),some (.vec BL AJ false)])))else(Q (.int .i64 7) [some (vc_do0_0 c0 c1 c2 c3 c4 c5 c6 lim cost AJ pl),some (.abs (Ab.pack (Pk.table bs)) false),some (.abs (Ab.pack (Pk.table nw)) false),some (.vec BL AJ false)]))else False))):=by kernel_rfl
def JN (l:List (EK.C AR)) (del:Bool) (key val:ByteArray):List (EK.C AR):=bif del then E4 l key else Ez l key val
def Uo (args:List Value) (objs:List AK):GT:=
 match args,objs with
 | [.agg ⟨[.bool del,.string key,.string val]⟩,.pointer (some ⟨9,0,none⟩)],[.abs (.pack (.table l)) _]=> .ask (A5 l/\l.length < 1000000) (.ret ⟨.tuple ⟨[]⟩,[some (.abs (.pack (.table (JN l del key val))) false)],[]⟩)
 | _,_=> .fail
theorem ZW:C3 Tryz.prog AL B8 (Al AL 9 [true] Uo):=by
 refine BY allM (by kernel_rfl) (n:=16) (by kernel_rfl) (by kernel_rfl) fun argsc objs x hx hro=>?_
 unfold Uo at hx;split at hx
 ·rename_i del key val l ro;simp only[GT.run]at hx;split at hx
  ·rename_i hok;obtain⟨hs,hn⟩:=hok;cases hx
   have hr0:ro=false:=hro 0 _ rfl rfl;subst hr0;refine⟨by simp,?_⟩;have hE:Ad XM 10 B8 (fun v H=>v= .tuple ⟨[]⟩/\H.get 9=some (.abs (.pack (.table (JN l del key val))) false)) (st B8 16 [.agg ⟨[.bool del,.string key,.string val]⟩,p9] (BH ⟨.leaf,9⟩ [.abs (.pack (.table l)) false])):=by
    refine(BW.Fk (Bt G0 (ids:=[9]) (Q:=fun v os=>v= .tuple ⟨[]⟩/\os=[some (.abs (.pack (.table (JN l del key val))) false)]) 200 _ ?_)).mono ?_
    ·rw[cy];unfold JN;refine Ae (fun h=>⟨⟨hs,hn,key,rfl⟩,rfl,?_⟩) (fun h=>⟨⟨hs,hn,key,val,rfl⟩,rfl,?_⟩)
     ·rw[h];rfl
     ·rw[h];rfl
    ·rintro v H ⟨rfl,h⟩;have h:[H.get 9]=_:=h;simp only[List.cons.injEq,and_true]at h;exact⟨rfl,h⟩
   refine hE.IC.mono ?_;rintro v H ⟨rfl,h⟩;exact S1 rfl h
  ·cases hx
 ·cases hx
def Mw:CP:=⟨fun _ rest=>rest=[],fun m _=> .bool (m.state==2),fun m _=>m⟩
theorem VS:C3 Tryz.prog AL BO (Al AL 9 [true] Mw.G):=by
 refine Mc allM (by kernel_rfl) (n:=12) ?_;rintro m rest rfl;refine⟨by simp,rfl,?_⟩;have hE:Ad XM 10 BO (fun v H=>v= .bool (m.state==2)/\([9,10,11,12]++Af 4 v).map H.get=[some (.cells (BN m 10 11 (.slice (some ⟨12,0,some 0⟩) m.AJ.length AF)) 0 false),some (Bi m.base),some (Bi m.now),some (.vec BL m.AJ false)]) (st BO 12 [p9] (BH ⟨.leaf,9⟩ (MS m))):=by
  refine BW.Fk (Bt G0 (ids:=[9,10,11,12]) (Q:=fun v os=>v= .bool (m.state==2)/\os=[some (.cells (BN m 10 11 (.slice (some ⟨12,0,some 0⟩) m.AJ.length AF)) 0 false),some (Bi m.base),some (Bi m.now),some (.vec BL m.AJ false)]) 100 _ ?_);rw[YC];refine Ae (fun h=>⟨by rw[h],by unfold AF;rfl⟩) (fun h=>⟨by rw[h],by unfold AF;rfl⟩)
 refine hE.mono ?_;rintro v H ⟨rfl,h⟩;have h:[H.get 9,H.get 10,H.get 11,H.get 12]=_:=h;simp only[List.cons.injEq,and_true]at h;exact⟨rfl,10,11,12,by decide,by decide,by decide,by decide,by decide,by decide,h.2.1,h.2.2.1,h.1,h.2.2.2⟩
def DB (l:List (EK.C AR)) (ks vs:List (EK.C kS)):Bool:=Bx ks (Az l)&&Bx vs (A7 l)
abbrev j6 (l:List (EK.C AR)) (b:Bool) (v:Value) (H:AA):Prop:=v= .bool b/\H.get 9=some (CS 12 l.length)/\H.get 12=some (.vec AR l false)
theorem O6 (x:EK.C AR) (l:List (EK.C AR)) (a b:ByteArray) (ks vs:List (EK.C kS)):DB (x::l) (a::ks) (b::vs)=((ByteArray.toList a==ByteArray.toList x.1&&Bx ks (Az l))&&(ByteArray.toList b==ByteArray.toList x.2&&Bx vs (A7 l))):=rfl
theorem ar (l:List (EK.C AR)) (ks vs:List (EK.C kS)) (h1:l.length=ks.length) (h2:l.length=vs.length) (hs:l.length < 1000000):∀(q i:Nat),l.length - i=q->i<=l.length->
 Ad X0 12 BQ (j6 l (DB (l.drop i) (ks.drop i) (vs.drop i))) (gQ l ks vs i i):=by
 have fin:∀(b:Bool) (v:Value) (H:AA),(v= .bool b/\([9,10,11,12]++Af 4 v).map H.get=[some (CS 12 l.length),some (.vec kS ks true),some (.vec kS vs true),some (.vec AR l false)])->j6 l b v H:=by
  rintro b v H ⟨rfl,h⟩;have h:[H.get 9,H.get 10,H.get 11,H.get 12]=_:=h;simp only[List.cons.injEq,and_true]at h;exact⟨rfl,h.1,h.2.2.2⟩
 intro q;induction q with
 | zero=>
  intro i hm hi;refine Gy (A6 X0) (ids:=[9,10,11,12]) (S:=jL) (ks:=jD) (by kernel_rfl) (Q:=fun v os=>v= .bool true/\os=[some (CS 12 l.length),some (.vec kS ks true),some (.vec kS vs true),some (.vec AR l false)]) (R:=fun _=>False) (fun v H h=>?_) (fun c h=>h.elim) 600 _ ?_
  ·have e:DB (l.drop i) (ks.drop i) (vs.drop i)=true:=by
    rw[List.drop_eq_nil_of_le (by omega),List.drop_eq_nil_of_le (by omega),List.drop_eq_nil_of_le (by omega)];rfl
   rw[e];exact fin _ v H h
  ·rw[dN];refine AU (fun h=>?_) (fun _=>⟨rfl,by unfold CS AF;rfl⟩);exfalso;have:(i:Int) < l.length:=h;omega
 | succ q ih=>
  intro i hm hi;have hlt:i < l.length:=by omega
  have hlt1:i < ks.length:=by omega
  have hlt2:i < vs.length:=by omega
  refine Gy (A6 X0) (ids:=[9,10,11,12]) (S:=jL) (ks:=jD) (by kernel_rfl) (Q:=fun v os=>DB (l.drop i) (ks.drop i) (vs.drop i)=false/\v= .bool false/\os=[some (CS 12 l.length),some (.vec kS ks true),some (.vec kS vs true),some (.vec AR l false)])
   (R:=fun c=>DB (l.drop i) (ks.drop i) (vs.drop i)=DB (l.drop (i+1)) (ks.drop (i+1)) (vs.drop (i+1))/\c=gQ l ks vs (i+1:Nat) (i+1:Nat)) (fun v H h=>by rw[h.1];exact fin _ v H h.2) (fun c h=>by rw[h.1,h.2];exact ih (i+1) (by omega) (by omega)) 600 _ ?_
  rw[dN];refine AU (fun h=>?_) (fun h=>absurd (show(i:Int) < (l.length:Int) by omega) h);refine AH (ca hlt) (AH (cb hlt) (AH (ca hlt1) (AH (cb hlt1) ?_)));rw[Ci hlt,Ci hlt1,Ci hlt2,Bv (by omega),List.drop_eq_getElem_cons hlt,List.drop_eq_getElem_cons hlt1,List.drop_eq_getElem_cons hlt2,O6];refine Ae (fun h=>?_) (fun h=>AH (ca hlt2) (AH (cb hlt2) (Ae (fun h3=>?_) (fun h3=>?_))))
  ·rw[Bool.not_eq_true']at h;rw[h];exact⟨rfl,rfl,by unfold CS AF;rfl⟩
  ·rw[Bool.not_eq_true']at h3;rw[h3];exact⟨by rw[Bool.false_and,Bool.and_false],rfl,by unfold CS AF;rfl⟩
  ·rw[Bool.not_eq_false']at h h3;rw[h,h3];exact⟨rfl,rfl⟩
theorem KH {l m:List (EK.C kS)} (h:Bx l m=true):l.length=m.length:=by
 have:=congrArg List.length (eq_of_beq h);simpa only[List.length_map] using this
def jW (args:List Value) (objs:List AK):GT:=
 match args,objs with
 | [.pointer (some ⟨9,0,none⟩),.slice (some ⟨10,0,some 0⟩) n c,.slice (some ⟨11,0,some 0⟩) n2 c2],[.abs (.pack (.table l)) _,.vec [.str] ks _,.vec [.str] vs _]=>
  .ask ((n=ks.length/\c=AF)/\(n2=vs.length/\c2=AF)/\ks.length=vs.length/\l.length < 1000000) (.ret ⟨.bool (DB l ks vs),[some (.abs (.pack (.table l)) false)],[]⟩)
 | _,_=> .fail
theorem ax {D:Nat->Prop} {v:Value} {H:AA} {l:List (EK.C AR)} (hD:D 9) (hT:Mf H l):∃H2,CE D v H H2/\H2.get 9=some (.abs (.pack (.table l)) false):=by
 rcases hT with⟨e,h9⟩ | ⟨m,hm,h9,hm2⟩
 ·refine⟨_,No (s:= .table l) (o:= .cells [.bool true,.slice none 0 0] 0 false) (by rw[e];exact .DC) (.inr hD) h9 rfl rfl rfl (.refl _),?_⟩;exact(B6 (by simp)).root 9 rfl
 ·refine⟨_,O2 (s:= .table l) (n:=m) (.table _) (.inr hD) hm h9 rfl rfl rfl rfl hm2 rfl rfl rfl (.refl _),?_⟩;exact(B6 (by simp[Ne.symm hm])).root 9 rfl
def dD (l:List (EK.C AR)) (ks vs:List (EK.C kS)):AA:=BH ⟨.leaf,9⟩ [.abs (.pack (.table l)) false,.vec kS ks true,.vec kS vs true]
theorem UG (l:List (EK.C AR)) (ks vs:List (EK.C kS)):∀x,12<=x->(dD l ks vs).get x=none:=by
 intro x hx;unfold dD;rw[Ev];show(if x < 9 then _ else _)=_;rw[if_neg (by omega),List.getElem?_eq_none (by simp;omega)];rfl
theorem Y4 (l:List (EK.C AR)) (ks vs:List (EK.C kS)):((dD l ks vs).put 9 (CS 12 l.length)).alloc (.vec AR l false)=kW l ks vs:=by kernel_rfl
theorem ZA (ks vs:List (EK.C kS)):(dD [] ks vs).put 9 (.cells [.bool true,.slice none 0 0] 0 false)=iO ks vs:=by kernel_rfl
theorem gC:C3 Tryz.prog AL BQ (Al AL 9 [true] jW):=by
 refine BY (A4.nil _ _) (by kernel_rfl) (n:=35) (by kernel_rfl) (by kernel_rfl) fun argsc objs x hx hro=>?_
 unfold jW at hx;split at hx
 ·rename_i n c n2 c2 l ro ks r1 vs r2;simp only[GT.run]at hx;split at hx
  ·rename_i hok;obtain⟨⟨rfl,rfl⟩,⟨rfl,rfl⟩,hkv,hs⟩:=hok;cases hx
   have hr0:ro=false:=hro 0 _ rfl rfl;subst hr0;refine⟨by simp,?_⟩;show Aq X0 12 (fun b=>9<=b/\b < 12) BQ _ (st BQ 35 [p9,CT 10 ks.length,CT 11 vs.length] (dD l ks vs));refine Aq.shut (Q:=fun v H=>v= .bool (DB l ks vs)/\Mf H l) ?_ ?_
   ·refine Aq.opened (b:=9) (s:= .table l) (ro:=false) ⟨by omega,by omega⟩ (by show(dD l ks vs).get 9=_;kernel_rfl) (fun ops p k h=>by cases h) fun objs hr=>?_
    cases hr with
    | DC=>
     refine⟨_,Kd (H:=dD [] ks vs) (b:=9) (ro:=false) (o1:= .cells [.bool true,.slice none 0 0] 0 false) (show 9 < 12 by decide) (UG [] ks vs) rfl,?_⟩;rw[ZA];have e:∀b:Bool,(b=true ↔ ks.length=0)->DB [] ks vs=b:=by
      intro b hb;cases ks with
      | nil=>
       rw[hb.2 rfl];have:vs=[]:=List.eq_nil_of_length_eq_zero hkv.symm;rw[this];rfl
      | cons a ks=>
       cases b
       ·rfl
       ·have:=hb.1 rfl;cases this
     refine Aq.mono (Ad.IC (BW.Fk (Bt (A6 X0) (ids:=[9,10,11]) (Q:=fun v os=>v= .bool (DB [] ks vs)/\os=[some (.cells [.bool true,.slice none 0 0] 0 false),some (.vec kS ks true),some (.vec kS vs true)]) 600 _ ?_))) ?_
     ·refine(fF ks vs _).mpr ?_;refine⟨rfl,rfl,Ae (fun h=>⟨?_,rfl⟩) (fun h=>⟨?_,rfl⟩)⟩
      ·rw[e false];refine⟨fun h=>(by cases h),fun h2=>?_⟩;rw[h2]at h;cases h
      ·rw[e true];refine⟨fun _=>?_,fun _=>rfl⟩;have:(0:Int)=Int.ofNat ks.length:=by simpa using h
       have:(0:Int)=(ks.length:Int):=this;omega
     ·rintro v H ⟨rfl,h⟩;have h:[H.get 9,H.get 10,H.get 11]=_:=h;simp only[List.cons.injEq,and_true]at h;exact⟨rfl,.inl ⟨rfl,h.1⟩⟩
    | table l=>
     refine⟨_,Hn (H:=dD l ks vs) (b:=9) (ro:=false) (o1:=CS 12 l.length) (p1:= .vec AR l false) (show 9 < 12 by decide) (UG l ks vs) rfl rfl,?_⟩;rw[Y4];refine Aq.mono (Q:=j6 l (DB l ks vs)) (Ad.IC (Gy (A6 X0) (ids:=[9,10,11,12]) (S:=jL) (ks:=jD) (by kernel_rfl) (Q:=fun v os=>DB l ks vs=false/\v= .bool false/\os=[some (CS 12 l.length),some (.vec kS ks true),some (.vec kS vs true),some (.vec AR l false)]) (R:=fun c=>l.length=ks.length/\c=gQ l ks vs 0 0) (fun v H h=>?_) (fun c h=>?_) 600 _ ?_)) ?_
     ·obtain⟨e,rfl,h⟩:=h;have h:[H.get 9,H.get 10,H.get 11,H.get 12]=_:=h;simp only[List.cons.injEq,and_true]at h;exact⟨by rw[e],h.1,h.2.2.2⟩
     ·obtain⟨e,rfl⟩:=h;have:=ar l ks vs e (e.trans hkv) hs l.length 0 (by omega) (by omega);rw[List.drop_zero,List.drop_zero,List.drop_zero]at this;exact this
     ·refine(fS l ks vs _ _).mpr ?_;refine⟨rfl,rfl,Ae (fun h=>⟨?_,rfl,by unfold CS AF;rfl⟩) (fun h=>AH (by simp) ⟨?_,rfl⟩)⟩
      ·have hne:l.length≠ks.length:=by intro e;rw[e]at h;simp at h
       cases hq:DB l ks vs
       ·rfl
       ·exfalso;unfold DB at hq;simp only[Bool.and_eq_true]at hq;have:=KH hq.1;unfold Az at this;rw[List.length_map]at this;exact hne this.symm
      ·have:(Int.ofNat l.length)=Int.ofNat ks.length:=by simpa using h
       exact Int.ofNat.inj this
     ·rintro v H ⟨rfl,g9,g12⟩;exact⟨rfl,.inr ⟨12,by decide,g9,g12⟩⟩
   ·rintro v H ⟨rfl,hT⟩;obtain⟨H2,k1,k2⟩:=ax (D:=fun b=>9<=b/\b < 9+3) (v:= .bool (DB l ks vs)) ⟨Nat.le_refl 9,by decide⟩ hT;refine⟨H2,k1,[],List.nodup_nil,(fun c hc=>by cases hc),rfl,rfl,(fun j c p hj hp=>by cases hj),fun j o hj hm ho=>?_⟩;cases j with
    | zero=>cases ho;exact⟨_,rfl,k2⟩
    | succ j=>cases ho
  ·cases hx
 ·cases hx
theorem Pb:Eg fG So:=Ap (UD (by kernel_rfl)) (Ap (fun _ _ _ h=>h.elim) (A6 _))
theorem dm:A4 Tryz.prog AL jP:=A4.cons Uz (A4.nil _ _)
def L0 (m:AB) (k a b:Int) (key val:ByteArray) (e:Int) (sv:ByteArray):Option AB:=
 bif m.state==2 then none
 else bif Hh k a b key val != 0 then(bif e==2&&(I2 sv&&true)then some m else none)
 else bif k==7 then(bif e==0&&(I2 sv&&true)then some { m with state:=bif a==0 then 1 else m.state,AG:=decide (a > 0) } else none)
 else bif k != 8 then(bif e==13&&(I2 sv&&true)then some m else none)
 else bif e==0&&(I2 sv&&true)then some { m with state:=2 }
 else bif m.AG then(bif !(e==13&&(I2 sv&&true))then none else some { m with AG:=false })else none
abbrev QA (m:AB):List (Option AK):=[some (.cells (BN m 10 11 (.slice (some ⟨12,0,some 0⟩) m.AJ.length 18446744073709551616)) 0 false),some (Bi m.base),some (Bi m.now),some (.vec BL m.AJ false)]
def ju (m:AB) (r:Option AB) (v:Value) (os:List (Option AK)):Prop:=(r=none/\v= .int .i64 7/\os=QA m)∨∃m',r=some m'/\v= .int .i64 0/\os=QA m'
theorem kG {m:AB} {r:Option AB} {os:List (Option AK)} (h:r=none) (hd:os=QA m):ju m r (.int .i64 7) os:= .inl ⟨h,rfl,hd⟩
theorem dE {m:AB} {r:Option AB} {os:List (Option AK)} (m':AB) (h:r=some m') (hd:os=QA m'):ju m r (.int .i64 0) os:= .inr ⟨m',h,rfl,hd⟩
abbrev mY (c0 c1 c2 c3 c4 c5 c6 lim:Int) (bs nw:List (ByteArray × ByteArray)) (cost:Int) (AJ:List (Bool × ByteArray × ByteArray)) (st:Int) (pl:Bool):AB:=⟨[c0,c1,c2,c3,c4,c5,c6],lim,bs,nw,cost,AJ,st,pl⟩
section
variable (c0 c1 c2 c3 c4 c5 c6 lim:Int) (bs nw:List (ByteArray × ByteArray)) (cost:Int) (AJ:List (Bool × ByteArray × ByteArray)) (pl:Bool) (k a b:Int) (key val:ByteArray) (e:Int) (sv:ByteArray)
abbrev eO (st':Int):Prop:=Ex fG So AX [9,10,11,12] (ju (mY c0 c1 c2 c3 c4 c5 c6 lim bs nw cost AJ st' pl) (L0 (mY c0 c1 c2 c3 c4 c5 c6 lim bs nw cost AJ st' pl) k a b key val e sv)) 2000 (st AX 66 [p9,E2 k a b key val,IK e sv] (BH ⟨.leaf,9⟩ (gS c0 c1 c2 c3 c4 c5 c6 lim bs nw cost AJ st' pl)))
theorem jf:eO c0 c1 c2 c3 c4 c5 c6 lim bs nw cost AJ pl k a b key val e sv 2:=by
 unfold eO;rw[fU];exact kG rfl rfl
theorem jr (hck:Fe k a b key val):eO c0 c1 c2 c3 c4 c5 c6 lim bs nw cost AJ pl k a b key val e sv 1:=by
 unfold eO;rw[dw];refine⟨hck,?_⟩;cases pl
 all_goals repeat' first
  | refine AH rfl ?_
  | refine EY rfl ?_
  | exact kG (by unfold L0 I2;simp only[*,cond_true,cond_false]<;>rfl) rfl
  | exact dE (mY c0 c1 c2 c3 c4 c5 c6 lim bs nw cost AJ 1 true) (by unfold L0 I2;simp only[*,cond_true,cond_false]<;>rfl) rfl
  | exact dE (mY c0 c1 c2 c3 c4 c5 c6 lim bs nw cost AJ 1 false) (by unfold L0 I2;simp only[*,cond_true,cond_false]<;>rfl) rfl
  | exact dE (mY c0 c1 c2 c3 c4 c5 c6 lim bs nw cost AJ 2 true) (by unfold L0 I2;simp only[*,cond_true,cond_false]<;>rfl) rfl
  | exact dE (mY c0 c1 c2 c3 c4 c5 c6 lim bs nw cost AJ 2 false) (by unfold L0 I2;simp only[*,cond_true,cond_false]<;>rfl) rfl
  | refine Ae (fun _=>?_) (fun _=>?_)
theorem kK (hck:Fe k a b key val) (h7:k=7) (h0:Hh k a b key val=0):eO c0 c1 c2 c3 c4 c5 c6 lim bs nw cost AJ pl k a b key val e sv 0:=by
 unfold eO;rw[fk];subst h7;have hc:(Hh 7 a b key val != 0)=false:=by rw[h0];rfl
 refine⟨hck,EY hc (AH rfl ?_)⟩;clear h0
 repeat' first
  | exact kG (by unfold L0 I2;simp only[*,cond_false]<;>rfl) rfl
  | exact dE (mY c0 c1 c2 c3 c4 c5 c6 lim bs nw cost AJ 0 true) (by unfold L0 I2;simp only[*,cond_true,cond_false]<;>rfl) rfl
  | exact dE (mY c0 c1 c2 c3 c4 c5 c6 lim bs nw cost AJ 0 false) (by unfold L0 I2;simp only[*,cond_true,cond_false]<;>rfl) rfl
  | exact dE (mY c0 c1 c2 c3 c4 c5 c6 lim bs nw cost AJ 1 true) (by unfold L0 I2;simp only[*,cond_true,cond_false]<;>rfl) rfl
  | exact dE (mY c0 c1 c2 c3 c4 c5 c6 lim bs nw cost AJ 1 false) (by unfold L0 I2;simp only[*,cond_true,cond_false]<;>rfl) rfl
  | refine AH rfl ?_
  | refine Ae (fun _=>?_) (fun _=>?_)
end
structure iG (m:AB) (k a b:Int) (key val:ByteArray):Prop where
 cfg:m.cfg.length=7
 Ni:Fe k a b key val
 st:m.state=2∨m.state=1∨(m.state=0/\k=7/\Hh k a b key val=0)
def jV:CP:=
 ⟨fun m rest=>match rest with
  | [.agg ⟨[.int .i64 k,.int .i64 a,.int .i64 b,.string key,.string val]⟩,.agg ⟨[.int .i64 _,.string _]⟩]=>iG m k a b key val
  | _=>False,
  fun m rest=>match rest with
  | [.agg ⟨[.int .i64 k,.int .i64 a,.int .i64 b,.string key,.string val]⟩,.agg ⟨[.int .i64 e,.string sv]⟩]=> .int .i64 (bif (L0 m k a b key val e sv).isSome then 0 else 7)
  | _=>Bn,
  fun m rest=>match rest with
  | [.agg ⟨[.int .i64 k,.int .i64 a,.int .i64 b,.string key,.string val]⟩,.agg ⟨[.int .i64 e,.string sv]⟩]=>(L0 m k a b key val e sv).getD m
  | _=>m⟩
theorem bA:C3 Tryz.prog AL AX (Al AL 9 [true] jV.G):=by
 refine Mc dm (by kernel_rfl) (n:=66) ?_;intro m rest hok;unfold jV at hok;simp only at hok;split at hok
 ·rename_i k a b key val e sv;obtain⟨hc,hck,hst⟩:=hok;refine⟨by simp,rfl,?_⟩;obtain⟨cfg,lim,bs,nw,cost,AJ,st0,pl⟩:=m;simp only at hc hst;obtain⟨c0,c1,c2,c3,c4,c5,c6,rfl⟩:=GV hc;have hV:eO c0 c1 c2 c3 c4 c5 c6 lim bs nw cost AJ pl k a b key val e sv st0:=by
   rcases hst with rfl | rfl | ⟨rfl,h7,h0⟩
   ·exact jf c0 c1 c2 c3 c4 c5 c6 lim bs nw cost AJ pl k a b key val e sv
   ·exact jr c0 c1 c2 c3 c4 c5 c6 lim bs nw cost AJ pl k a b key val e sv hck
   ·exact kK c0 c1 c2 c3 c4 c5 c6 lim bs nw cost AJ pl k a b key val e sv hck h7 h0
  have hE:=BW.Fk (N:=10) (Bt Pb (ids:=[9,10,11,12]) 2000 _ hV);refine hE.mono ?_;have fin:∀(m':AB) (H:AA),[H.get 9,H.get 10,H.get 11,H.get 12]=QA m'->FT H m':=by
   intro m' H h;simp only[List.cons.injEq,and_true]at h;exact⟨10,11,12,by decide,by decide,by decide,by decide,by decide,by decide,h.2.1,h.2.2.1,by rw[h.1,EH],h.2.2.2⟩
  rintro v H (⟨hr,rfl,h⟩ | ⟨m',hr,rfl,h⟩)
  ·refine⟨?_,?_⟩
   ·show _=Value.int .i64 (bif (L0 _ k a b key val e sv).isSome then 0 else 7);rw[hr];rfl
   ·show FT H ((L0 _ k a b key val e sv).getD _);rw[hr];exact fin _ H h
  ·refine⟨?_,?_⟩
   ·show _=Value.int .i64 (bif (L0 _ k a b key val e sv).isSome then 0 else 7);rw[hr];rfl
   ·show FT H ((L0 _ k a b key val e sv).getD _);rw[hr];exact fin _ H h
 ·exact hok.elim
end Go.AI
namespace Go.AI
def Xl (X:Ctx) (pf:Pf) (f:FuncId) (ids:List Nat) (S S2:Stop) (ks:List (FuncId × List Nat)) (Q:Value->List (Option AK)->Prop) (R R2:A8->Prop) (n:Nat):A8->Prop:=
 Nat.rec (motive:=fun _=>A8->Prop) (fun _=>False) (fun _ ih c=>match DX X f c with
  | some (v,H)=>Q v ((ids++Af 4 v).map H.get)
  | none=>bif S.here c then(match S.IY X ks c with
   | some c2=>R c2
   | none=>False)
   else bif S2.here c then(match S2.IY X ks c with
    | some c2=>R2 c2
    | none=>False)
   else Ft X pf c ih) n
theorem MO {X:Ctx} {S:Stop} {ks:List (FuncId × List Nat)} (hl:(X.laid.all fun p=>Nat.blt p.1 S.N)=true) {c c2:A8} {Φ:A8->Prop} (hc:S.IY X ks c=some c2) (h:BC X S.N c2 Φ):BC X S.N c Φ:=by
 unfold Stop.IY at hc;split at hc
 ·rename_i c1 h1;cases hd:(Cu c1.fr.todo&&(c1.cs.all fun f=>Cu f.todo))
  ·simp only[hd,cond_false]at hc;cases hc
  ·simp only[hd,cond_true]at hc;simp only[Bool.and_eq_true]at hd;cases hb:(Nat.ble S.N (Fv ks (S.ids c1) c1).H.next&&(S.ids (Fv ks (S.ids c1) c1)).all (fun b=>Nat.blt b (Fv ks (S.ids c1) c1).H.next))
   ·simp only[hb,cond_false]at hc;cases hc
   ·simp only[hb,cond_true]at hc;simp only[Bool.and_eq_true]at hb;have hr:=QQ (X:=X) hl (Nat.le_of_ble_eq_true hb.1) hb.2 hc h;exact BC.bind (Reach.Fk ((Mj.step h1).reach (Φ:=fun c'=>c'=c1) rfl)) fun c' e=>e ▸ NH hd.1 hd.2 hr
 ·cases hc
theorem Gw {X:Ctx} {pf:Pf} (hpf:Eg X pf) {f:FuncId} {ids:List Nat} {N:Nat} {S S2:Stop} {ks:List (FuncId × List Nat)} (hl:(X.laid.all fun p=>Nat.blt p.1 N)=true) (hN:S.N=N) (hN2:S2.N=N) {Q:Value->List (Option AK)->Prop} {R R2:A8->Prop} {Q':Value->AA->Prop}
 (hQ:∀v H,Q v ((ids++Af 4 v).map H.get)->Q' v H) (hR:∀c,R c->Ad X N f Q' c) (hR2:∀c,R2 c->Ad X N f Q' c):∀(n:Nat) (c:A8),Xl X pf f ids S S2 ks Q R R2 n c->Ad X N f Q' c:=by
 intro n;induction n with
 | zero=>intro c h;cases h
 | succ n ih=>
  intro c h;have h:(match DX X f c with
   | some (v,H)=>Q v ((ids++Af 4 v).map H.get)
   | none=>bif S.here c then(match S.IY X ks c with
    | some c2=>R c2
    | none=>False)
    else bif S2.here c then(match S2.IY X ks c with
     | some c2=>R2 c2
     | none=>False)
    else Ft X pf c (Xl X pf f ids S S2 ks Q R R2 n)):=h
  split at h
  ·rename_i v H e;exact BC.here ⟨v,H,e,hQ v H h⟩
  ·cases hs:S.here c
   ·simp only[hs,cond_false]at h;cases hs2:S2.here c
    ·simp only[hs2,cond_false]at h;exact BC.bind (Reach.Fk (Ge hpf h)) fun c' hc=>ih c' hc
    ·simp only[hs2,cond_true]at h;split at h
     ·rename_i c2 hc;have hr:=MO (X:=X) (S:=S2) (Φ:=fun c'=>∃v H,DX X f c'=some (v,H)/\Q' v H) (by rw[hN2];exact hl) hc (by rw[hN2];exact hR2 c2 h);rw[hN2]at hr;exact hr
     ·cases h
   ·simp only[hs,cond_true]at h;split at h
    ·rename_i c2 hc;have hr:=MO (X:=X) (S:=S) (Φ:=fun c'=>∃v H,DX X f c'=some (v,H)/\Q' v H) (by rw[hN];exact hl) hc (by rw[hN];exact hR c2 h);rw[hN]at hr;exact hr
    ·cases h
end Go.AI
namespace Go.AI
open Go.Proofs
theorem aM (l:List (EK.C AR)) (Q:Value->List (Option AK)->Prop):Ex X0 C4 Bg [9,10,11] Q 100 (st Bg 4 [p9] (BH ⟨.leaf,9⟩ (LJ l)))=(
 (Q (.func (Fn.func 51) ⟨[]⟩ ⟨[(.pointer (some ⟨11,0,none⟩))]⟩) [some (.cells [(.bool true),(.slice (some ⟨10,0,(some 0)⟩) (List.length l) 18446744073709551616)] 0 false),some (.vec AR l false),some (.cells [(.pointer (some ⟨9,0,none⟩))] 0 false),some (.cells [(.pointer (some ⟨9,0,none⟩))] 0 false)])):=by kernel_rfl
theorem Yf (Q:Value->List (Option AK)->Prop):Ex X0 C4 Bg [9,10] Q 100 (st Bg 4 [p9] (BH ⟨.leaf,9⟩ Nz))=(
 (Q (.func (Fn.func 51) ⟨[]⟩ ⟨[(.pointer (some ⟨10,0,none⟩))]⟩) [some (.cells [(.bool true),(.slice none 0 0)] 0 false),some (.cells [(.pointer (some ⟨9,0,none⟩))] 0 false),some (.cells [(.pointer (some ⟨9,0,none⟩))] 0 false)])):=by kernel_rfl
def ZY (b:Nat):Value:= .func (.func BA) ⟨[]⟩ ⟨[DW b]⟩
def UF (args:List Value) (objs:List AK):GT:=
 match args,objs with
 | [.pointer (some ⟨9,0,none⟩)],[.abs (.pack (.table l)) _]=> .ret ⟨ZY 11,[some (CS 10 l.length)],[.vec AR l false,.cells [DW 9] 0 false]⟩
 | _,_=> .fail
theorem X1:C3 Tryz.prog AL Bg (Al AL 9 [true] UF):=by
 refine BY (A4.nil _ _) (by kernel_rfl) (n:=4) (by kernel_rfl) (by kernel_rfl) fun argsc objs x hx hro=>?_
 unfold UF at hx;split at hx
 ·rename_i l ro;simp only[GT.run]at hx;cases hx
  have hr0:ro=false:=hro 0 _ rfl rfl;subst hr0;refine⟨by simp,?_⟩;refine Aq.mono (Q:=fun v H=>∃z b,z≠b/\10<=z/\10<=b/\v=ZY b/\H.get 9=some (CS z l.length)/\H.get z=some (.vec AR l false)/\H.get b=some (.cells [DW 9] 0 false)) ?_ ?_
  ·show Aq X0 10 (fun b=>9<=b/\b < 10) Bg _ (st Bg 4 [p9] (IJ l));refine Aq.opened (b:=9) (s:= .table l) (ro:=false) ⟨by omega,by omega⟩ (by rfl) (fun ops p k h=>by cases h) fun objs hr=>?_
   cases hr with
   | DC=>
    have hE:Ad X0 10 Bg (fun v H=>v=ZY 10/\H.get 9=some (.cells [.bool true,.slice none 0 0] 0 false)/\H.get 10=some (.cells [DW 9] 0 false)) (st Bg 4 [p9] (BH ⟨.leaf,9⟩ Nz)):=by
     refine(BW.Fk (Bt (A6 X0) (ids:=[9,10]) (Q:=fun v os=>v=ZY 10/\os=[some (.cells [.bool true,.slice none 0 0] 0 false),some (.cells [DW 9] 0 false),some (.cells [DW 9] 0 false)]) 100 _ (by rw[Yf];exact⟨rfl,rfl⟩))).mono ?_;rintro v H ⟨rfl,h⟩;have h:[H.get 9,H.get 10,H.get 10]=_:=h;simp only[List.cons.injEq,and_true]at h;exact⟨rfl,h.1,h.2.1⟩
    refine⟨_,Kd (H:=IJ []) (b:=9) (ro:=false) (o1:= .cells [.bool true,.slice none 0 0] 0 false) (show 9 < 10 by decide) (HB []) rfl,?_⟩;rw[M4];refine Aq.tell hE.IC ?_;rintro v H ⟨rfl,g9,IB⟩;have n1:=H.Dx;refine⟨_,(H.CR AR).put 9 (.cells ([.bool true]++ .slice (some ⟨H.Br,0,some 0⟩) 0 AF::[]) 0 false),fun base W0 μ W v' hd hv hH=>?_,H.Br,10,by omega,by omega,by decide,rfl,?_,?_,?_⟩
    ·obtain⟨μ2,a1,a2⟩:=hH.Kh (k:=AR) (b:=9) (pre:=[.bool true]) (post:=[]) (e:=0) (ro:=false) (hd 9 ⟨Nat.le_refl 9,Nat.lt_succ_self 9⟩) (fun _=>EV) g9 (by decide);exact⟨μ2,a1,a2,hv.mono a1⟩
    ·rw[AA.AQ,if_pos rfl];rfl
    ·rw[AA.AQ,if_neg (by omega),AA.CA,if_pos rfl]
    ·rw[AA.AQ,if_neg (by decide),AA.CA,if_neg (by omega)];exact IB
   | table l=>
    refine⟨_,Hn (H:=IJ l) (b:=9) (ro:=false) (o1:= .cells [.bool true,.slice (some ⟨10,0,some 0⟩) l.length AF] 0 false) (p1:= .vec AR l false) (show 9 < 10 by decide) (HB l) rfl rfl,?_⟩;rw[Md];refine Aq.mono (Ad.IC (BW.Fk (Bt (A6 X0) (ids:=[9,10,11]) (Q:=fun v os=>v=ZY 11/\os=[some (CS 10 l.length),some (.vec AR l false),some (.cells [DW 9] 0 false),some (.cells [DW 9] 0 false)]) 100 _ ((aM l _).mpr ⟨rfl,by unfold CS AF;rfl⟩)))) ?_;rintro v H ⟨rfl,h⟩;have h:[H.get 9,H.get 10,H.get 11,H.get 11]=_:=h;simp only[List.cons.injEq,and_true]at h;exact⟨10,11,by decide,by decide,by decide,rfl,h.1,h.2.1,h.2.2.1⟩
  ·rintro v H ⟨z,b,hzb,hz,hb,rfl,g9,gz,gb⟩;refine⟨[z,b],by simp[hzb],fun c hc=>by simp at hc;show 10<=c;omega,rfl,rfl,fun j c p hj hp=>?_,fun j o hj hm ho=>?_⟩
   ·match j,hj,hp with
    | 0,hj,hp=>cases hj;cases hp;exact⟨_,rfl,gz⟩
    | 1,hj,hp=>cases hj;cases hp;exact⟨_,rfl,gb⟩
    | j+2,hj,hp=>cases hj
   ·cases j with
    | zero=>cases ho;exact⟨_,rfl,g9⟩
    | succ j=>exact absurd hj (by show ¬(j+1 < 1);omega)
 ·cases hx
def QO (args:List Value) (objs:List AK):GT:=
 match args,objs with
 | [.pointer (some ⟨9,0,none⟩)],[.abs (.pack (.table l)) _]=> .ask (l.length < 1000000) (.ret ⟨.pointer (some ⟨10,0,none⟩),[some (.abs (.pack (.table l)) false)],[.abs (.pack (.table l)) false]⟩)
 | [.pointer (some ⟨9,0,none⟩)],[.cells [.bool true,.slice (some ⟨10,0,some 0⟩) n c] 0 _,.vec [.str,.str] l _]=> .ask ((n=l.length/\c=AF)/\l.length < 1000000) (.ret ⟨.pointer (some ⟨11,0,none⟩),[some (CS 10 l.length),some (.vec AR l false)],[.abs (.pack (.table l)) false]⟩)
 | _,_=> .fail
theorem Wc:C3 Tryz.prog AL Aa (Al AL 9 [true,true] QO):=by
 refine BY (A4.nil _ _) (by kernel_rfl) (n:=34) (by kernel_rfl) (by kernel_rfl) fun argsc objs x hx hro=>?_
 unfold QO at hx;split at hx
 ·rename_i l ro;simp only[GT.run]at hx;split at hx
  ·rename_i hn;cases hx
   have hr0:ro=false:=hro 0 _ rfl rfl;subst hr0;refine⟨by simp,?_⟩;refine Aq.mono (Oh hn) ?_;rintro v H ⟨b,hb,rfl,h9,h⟩;refine⟨[b],by simp,fun c hc=>by simp at hc;show 10<=c;omega,rfl,rfl,fun j c p hj hp=>?_,fun j o hj hm ho=>?_⟩
   ·cases j with
    | zero=>cases hj;cases hp;exact⟨_,rfl,h⟩
    | succ j=>cases j<;>cases hj
   ·cases j with
    | zero=>cases ho;exact⟨_,rfl,h9⟩
    | succ j=>exact absurd hj (by show ¬(j+1 < 1);omega)
  ·cases hx
 ·rename_i n c r0 l r1;simp only[GT.run]at hx;split at hx
  ·rename_i hok;obtain⟨⟨rfl,rfl⟩,hn⟩:=hok;cases hx
   have e0:r0=false:=hro 0 _ rfl rfl;have e1:r1=false:=hro 1 _ rfl rfl;subst e0 e1;refine⟨by simp,?_⟩;show Aq X0 11 (fun b=>9<=b/\b < 11) Aa _ (st Aa 34 [p9] (BH ⟨.leaf,9⟩ (LJ l)));refine Aq.shut (Q:=PF l) (SN hn).IC ?_;rintro v H ⟨rfl,h9,h10,h14⟩;have fin:∀H2:AA,H2.get 9=H.get 9->H2.get 10=H.get 10->H2.get 14=some (.abs (.pack (.table l)) false)->CY AL 9 2 [true,true] ⟨.pointer (some ⟨11,0,none⟩),[some (CS 10 l.length),some (.vec AR l false)],[.abs (.pack (.table l)) false]⟩ (DW 14) H2:=by
    intro H2 k9 k10 k14;refine⟨[14],by simp,fun c hc=>by simp at hc;show 11<=c;omega,rfl,rfl,fun j c p hj hp=>?_,fun j o hj hm ho=>?_⟩
    ·cases j with
     | zero=>cases hj;cases hp;exact⟨_,rfl,k14⟩
     | succ j=>cases j<;>cases hj
    ·match j,ho with
     | 0,ho=>cases ho;exact⟨_,rfl,by rw[k9];exact h9⟩
     | 1,ho=>cases ho;exact⟨_,rfl,by rw[k10];exact h10⟩
     | j+2,ho=>cases ho
   rcases h14 with⟨e,h14⟩ | ⟨h14,h15⟩
   ·have s2:=B6 (s:= .table l) (bs:=[14]) (H:=H) (by simp);exact⟨DE (.table l) [14] H,No (s:= .table l) (o:= .cells [.bool true,.slice none 0 0] 0 false) (by rw[e];exact .DC) (.inl (by simp[Af,DW])) h14 rfl rfl rfl (.refl _),fin _ (s2.C2 9 (by simp)) (s2.C2 10 (by simp)) (s2.root 14 rfl)⟩
   ·have s2:=B6 (s:= .table l) (bs:=[14,15]) (H:=H) (by simp);exact⟨DE (.table l) [14,15] H,O2 (s:= .table l) (b:=14) (n:=15) (.table l) (.inl (by simp[Af,DW])) (by decide) h14 rfl rfl rfl rfl h15 rfl rfl rfl (.refl _),fin _ (s2.C2 9 (by simp)) (s2.C2 10 (by simp)) (s2.root 14 rfl)⟩
  ·cases hx
 ·cases hx
def VJ (m:AB) (l1 l2:List (EK.C kS)):AA:=BH ⟨.leaf,9⟩ [.cells (BN m 12 13 (.slice (some ⟨14,0,some 0⟩) m.AJ.length AF)) 0 false,.vec kS l1 true,.vec kS l2 true,.abs (.pack (.table m.base)) false,.abs (.pack (.table m.now)) false,.vec BL m.AJ false]
theorem BC.bT {X:Ctx} {N:Nat} {Φ:A8->Prop} {fn:FuncId} {t:Tr Value} {n:Nat} {todo:List CN} {ds:List Deferred} {r:Bool} {kd:CallKind} {rd:Option Nat} {cs:List Ah} {H:AA} (j:Nat) {a o b:Nat} {q:Option Nat} {s:Pk} {ro:Bool}
 (hd:Cu todo=true) (hj:look t j= .pointer (some ⟨a,o,q⟩)) (hreach:b∈Am H 0 200 [a] []) (hb:H.get b=some (.abs (.pack s) ro))
 (h:∀objs,Dv s objs->∃H',KG H b ro objs H' (Eb s)/\BC X N ⟨⟨fn,t,n,todo,ds,r,kd,rd⟩,cs,H'⟩ Φ):BC X N ⟨⟨fn,t,n,todo,ds,r,kd,rd⟩,cs,H⟩ Φ:=by
 intro base W0 hb0 hok hplan cs0 μ fr cs' W hm;obtain⟨hH,hlaid,g,gs,hfr,hcs,hnd⟩:=hm;cases hfr with
 | plain fn t n tm todo todo' ds ds' r kd rd rd' ht hi hd hr=>
  have hj2:=ht.2 j;rw[hj]at hj2;have hr2:=FA hH (N:=0) 200 [a] [] (fun x hx=>by
   rw[List.mem_singleton]at hx;subst hx
   exact Up hj2) ⟨List.nodup_nil,fun b hb=>by cases hb⟩
  obtain⟨T,hT⟩:=(hr2.2 b hreach).2;obtain⟨objs,hr4,ho⟩:=hH.opened hb hT;obtain⟨H',hO,hrun⟩:=h objs hr4;obtain⟨μ',hH',hE⟩:=ho H' hO;exact hrun base W0 hb0 hok hplan cs0 μ' _ cs' W ⟨hH',hlaid.mono hE.le,[],gs,.plain fn t n tm todo todo' ds ds' _ kd rd rd' (ht.mono hE.le) (hi.mono hE.le) (hd.mono hE.le) (hr.mono hE.le),hcs.mono (hE.keeps _),hnd⟩
 | drawn fn t n tm ops Bu idx D G k k' ds ds' kd rd rd' hD hk2 hd2 hr2=>cases hd
structure kq (m:AB):Prop where
 st:m.state=0
def SM (m:AB) (l1 l2:List (EK.C kS)):AA:=BH ⟨.leaf,9⟩ [.abs (.pack (.model m)) false,.vec kS l1 true,.vec kS l2 true]
theorem YJ (m:AB) (l1 l2:List (EK.C kS)):∀x,12<=x->(SM m l1 l2).get x=none:=by
 intro x hx;unfold SM;rw[Ev];show(if x < 9 then _ else _)=_;rw[if_neg (by omega),List.getElem?_eq_none (by simp;omega)];rfl
theorem cU (m:AB) (l1 l2:List (EK.C kS)):EC ((SM m l1 l2).put 9 (.cells (BN m 12 13 (.slice (some ⟨14,0,some 0⟩) m.AJ.length AF)) 0 false)) [.abs (.pack (.table m.base)) false,.abs (.pack (.table m.now)) false,.vec BL m.AJ false]=VJ m l1 l2:=by kernel_rfl
structure jz (s c1 c2 c3 c4 c5 c6:Int):Prop where
 lo:32 < s
 hi:s < 1000000
 e1:c1=100
 e2:c2=2
 e3:c3=200
 e4:c4=8
 e5:c5=16
 e6:c6=1
structure kl (m:AB) (k a b:Int) (key val:ByteArray) (e:Int) (sv:ByteArray):Prop where
 ok:Gh m k a b key val e sv
 same:ED m k a b key val e sv=m
abbrev kP:List (FuncId × Cn):=[(BQ,Al AL 9 [true] jW),(B8,Al AL 9 [true] Uo),(Aa,Al AL 9 [true,true] QO),(Bg,Al AL 9 [true] UF)]
def XO:Ctx:=Cx Tryz.prog AL kP
def Zj:Pf:=fun g=>bif Nat.beq g BQ then some (BU AL 9 [true] jW)else bif Nat.beq g B8 then some (BU AL 9 [true] Uo)else bif Nat.beq g Aa then some (BU AL 9 [true,true] QO)else bif Nat.beq g Bg then some (BU AL 9 [true] UF)else C4 g
def mW (m:AB) (c:Int):AB:={ m with state:=2,cost:=c }
def Wk (a b c d:Nat):Tr Value:=Gr [(3,DW a),(4,DW b),(5,DW c),(6,DW d)]
def gf (m:AB) (s:Pk) (ks vs:List (EK.C kS)) (i:Int):A8:=
 ⟨⟨AY,Gr [(0,.func (.yield 16) ⟨[]⟩ ⟨[]⟩),(1,DW 12),(3,DW 13),(14,.slice (some ⟨14,0,some 0⟩) m.AJ.length AF),(15,.int .i64 m.AJ.length),(16,.int .i64 i)],49,[.code (BI Tryz.prog AY [1,0,1,0,0]),.inLoop (BI Tryz.prog AY [1,0,1,0,0]),.inBlock 0,.code (BI Tryz.prog AY [1,1])],[],false,.normal,none⟩,
  [⟨AD,Wk 17 19 18 20,68,[.inRangeFunc 16,.inBlock 1,.code (BI Tryz.prog AD [1,1,1])],[⟨.collected 15,⟨[]⟩⟩],false,.normal,none⟩],
  BH ⟨.leaf,9⟩ [Dy (mW m m.cost) 21 22 14,.vec kS ks true,.vec kS vs true,.cells [DW 9] 0 false,.abs (.pack s) false,.vec BL m.AJ false,.deferred (some []),
   .loop ⟨.ready,none,AD,Wk 17 19 18 20,68,#[29],BI Tryz.prog AD [1,1,0,1,0,0],BI Tryz.prog AD [1,1,0,1,0,1],15⟩,
   .cells [DW 9] 0 false,.cells [CT 11 vs.length] 0 false,.cells [CT 10 ks.length] 0 false,.cells [.int .i64 0] 0 false,Bi m.base,Bi m.now]⟩
def kQ:Nat->List CN
 | 8=>[IG (BI Tryz.prog AY [1,0,1,0,0,1,1,0,0,1,0,0]) 2,.code (BI Tryz.prog AY [1,0,1,0,0,1,1,0,0,1,0,1]),.code (BI Tryz.prog AY [1,0,1,0,0,1,1,0,0,1,1]),.inBlock 1,.code (BI Tryz.prog AY [1,0,1,0,0,1,1,1]),.inLoop (BI Tryz.prog AY [1,0,1,0,0]),.inBlock 0,.code (BI Tryz.prog AY [1,1])]
 | _=>[IG (BI Tryz.prog AY [1,1,0]) 2,.code (BI Tryz.prog AY [1,1,1])]
def Zk (td:Nat) (m:AB) (l:List (EK.C AR)) (s:Pk) (ks vs:List (EK.C kS)) (c i j:Int):A8:=
 ⟨⟨Ao,Gr [(2,.func (.yield 14) ⟨[]⟩ ⟨[]⟩),(11,.slice (some ⟨12,0,some 0⟩) l.length AF),(12,.int .i64 l.length),(13,.int .i64 i)],25,[.code (BI Tryz.prog Ao [1,0,0]),.inLoop (BI Tryz.prog Ao [1,0,0]),.inBlock 0],[],false,.normal,none⟩,
  [⟨BA,Gr [],6,[IG (BI Tryz.prog BA []) 2],[],false,.normal,none⟩,
   ⟨AD,Wk 15 17 16 18,68,[.inRangeFunc 14,.inBlock 3,.code (BI Tryz.prog AD [1,1,0,1,0,1,0,1,1,1,1]),.inBlock 2],[],false,.normal,some 13⟩,
   ⟨AY,Gr [(0,.func (.yield 13) ⟨[]⟩ ⟨[]⟩),(1,DW 20),(3,DW 19),(14,.slice (some ⟨21,0,some 0⟩) m.AJ.length AF),(15,.int .i64 m.AJ.length),(16,.int .i64 j)],49,kQ td,[],false,.normal,none⟩,
   ⟨AD,Wk 15 17 16 18,68,[.inRangeFunc 13,.inBlock 1,.code (BI Tryz.prog AD [1,1,1])],[⟨.collected 22,⟨[]⟩⟩],false,.normal,none⟩],
  BH ⟨.leaf,9⟩ [Dy (mW m c) 23 24 21,.vec kS ks true,.vec kS vs true,.vec AR l false,
   .loop ⟨.busy,none,AD,Wk 15 17 16 18,68,#[29],BI Tryz.prog AD [1,1,0,1,0,0],BI Tryz.prog AD [1,1,0,1,0,1],22⟩,
   .loop ⟨.ready,none,AD,Wk 15 17 16 18,68,#[48,49],BI Tryz.prog AD [1,1,0,1,0,1,0,1,1,1,0,1,0,0],BI Tryz.prog AD [1,1,0,1,0,1,0,1,1,1,0,1,0,1],22⟩,
   .cells [DW 9] 0 false,.cells [CT 11 vs.length] 0 false,.cells [CT 10 ks.length] 0 false,.cells [.int .i64 0] 0 false,.abs (.pack s) false,.cells [DW 9] 0 false,.vec BL m.AJ false,.deferred (some []),Bi m.base,CS 12 l.length]⟩
def bM:Stop:=⟨AY,1,3,12,[9,10,11],[0,1,3,14,15,16]⟩
def Pj:Stop:=⟨Ao,4,2,12,[9,10,11],[2,11,12,13]⟩
def P0:List (FuncId × List Nat):=[(BA,[]),(AY,[0,1,3,14,15,16]),(AD,[3,4,5,6])]
theorem eL (m:AB) (ks vs:List (EK.C kS)) (Q:Value->List (Option AK)->Prop) (R R2:A8->Prop):Xl XO Zj AD [9,12,13,14] bM Pj P0 Q R R2 1000 (st AD 68 [p9,CT 10 ks.length,CT 11 vs.length] (VJ (mW m m.cost) ks vs))=(
 (bif Int.ofNat (List.length ks) != Int.ofNat (List.length vs)then(Q (.int .i64 7) [some (.cells [(.int .i64 (List.getD (AB.cfg (mW m (AB.cost m))) 0 0)),(.int .i64 (List.getD (AB.cfg (mW m (AB.cost m))) 1 0)),(.int .i64 (List.getD (AB.cfg (mW m (AB.cost m))) 2 0)),(.int .i64 (List.getD (AB.cfg (mW m (AB.cost m))) 3 0)),(.int .i64 (List.getD (AB.cfg (mW m (AB.cost m))) 4 0)),(.int .i64 (List.getD (AB.cfg (mW m (AB.cost m))) 5 0)),(.int .i64 (List.getD (AB.cfg (mW m (AB.cost m))) 6 0)),(.int .i64 (AB.AN (mW m (AB.cost m)))),(p_ 12),(p_ 13),(.int .i64 (AB.cost (mW m (AB.cost m)))),(.slice (some ⟨14,0,(some 0)⟩) (List.length (AB.AJ (mW m (AB.cost m)))) 18446744073709551616),(.pointer none),(.int .i64 (AB.state (mW m (AB.cost m)))),(.bool (AB.AG (mW m (AB.cost m))))] 0 false),some (.abs (Ab.pack (Pk.table (AB.base (mW m (AB.cost m))))) false),some (.abs (Ab.pack (Pk.table (AB.now (mW m (AB.cost m))))) false),some (.vec BL (AB.AJ (mW m (AB.cost m))) false)])else(List.length (AB.base (mW m (AB.cost m))) < 1000000)/\(R (gf m (Pk.table (AB.base (mW m (AB.cost m)))) ks vs 0)))):=by kernel_rfl
theorem db (m:AB) (t:List (EK.C AR)) (ks vs:List (EK.C kS)) (i:Int) (Q:Value->List (Option AK)->Prop) (R R2:A8->Prop):Xl XO Zj AD [9,14,21,22] bM Pj P0 Q R R2 1000 (gf m (.table t) ks vs i)=(
 (bif decide (i < ((List.length (AB.AJ m)):Int))then(bif decide (0<=i)&&Nat.blt (Int.toNat i) (List.length (AB.AJ m))then(bif Nat.blt (0+Int.toNat i) (List.length (AB.AJ m))then((List.length ks=List.length ks/\AF=AF)/\(List.length vs=List.length vs/\AF=AF)/\List.length ks=List.length vs/\List.length t < 1000000)/\(bif DB t ks vs then(List.length t < 1000000)/\(p_ 9=p_ 9)/\(bif decide (0<=Int.ofNat (List.length t))&&Nat.ble (Int.toNat (Int.ofNat (List.length t))) (List.length t)&&decide (0<=0)&&Nat.ble 0 (Int.toNat (Int.ofNat (List.length t)))then(R2 (Zk 8 m t (Pk.table t) ks vs 0 0 i))else False)else(A5 t/\List.length t < 1000000)/\(R (gf m (Pk.table (JN t (Prod.fst (List.getD (AB.AJ m) (0+Int.toNat i) (EK.AZ BL))) (Prod.fst (Prod.snd (List.getD (AB.AJ m) (0+Int.toNat i) (EK.AZ BL)))) (Prod.snd (Prod.snd (List.getD (AB.AJ m) (0+Int.toNat i) (EK.AZ BL)))))) ks vs (IntKind.wrap .i64 (i+1)))))else False)else False)else((List.length ks=List.length ks/\AF=AF)/\(List.length vs=List.length vs/\AF=AF)/\List.length ks=List.length vs/\List.length t < 1000000)/\(bif DB t ks vs then(List.length t < 1000000)/\(p_ 9=p_ 9)/\(bif decide (0<=Int.ofNat (List.length t))&&Nat.ble (Int.toNat (Int.ofNat (List.length t))) (List.length t)&&decide (0<=0)&&Nat.ble 0 (Int.toNat (Int.ofNat (List.length t)))then(R2 (Zk 2 m t (Pk.table t) ks vs 0 0 i))else False)else(Q (.int .i64 7) [some (.cells [(.int .i64 (List.getD (AB.cfg (mW m (AB.cost m))) 0 0)),(.int .i64 (List.getD (AB.cfg (mW m (AB.cost m))) 1 0)),(.int .i64 (List.getD (AB.cfg (mW m (AB.cost m))) 2 0)),(.int .i64 (List.getD (AB.cfg (mW m (AB.cost m))) 3 0)),(.int .i64 (List.getD (AB.cfg (mW m (AB.cost m))) 4 0)),(.int .i64 (List.getD (AB.cfg (mW m (AB.cost m))) 5 0)),(.int .i64 (List.getD (AB.cfg (mW m (AB.cost m))) 6 0)),(.int .i64 (AB.AN (mW m (AB.cost m)))),(p_ 21),(p_ 22),(.int .i64 (AB.cost (mW m (AB.cost m)))),(.slice (some ⟨14,0,(some 0)⟩) (List.length (AB.AJ (mW m (AB.cost m)))) 18446744073709551616),(.pointer none),(.int .i64 (AB.state (mW m (AB.cost m)))),(.bool (AB.AG (mW m (AB.cost m))))] 0 false),some (.vec BL (AB.AJ m) false),some (.abs (Ab.pack (Pk.table (AB.base m))) false),some (.abs (Ab.pack (Pk.table (AB.now m))) false)])))):=by kernel_rfl
theorem ZV (m:AB) (l t:List (EK.C AR)) (ks vs:List (EK.C kS)) (c i j:Int) (Q:Value->List (Option AK)->Prop) (R R2:A8->Prop):Xl XO Zj AD [9,12,24,25] bM Pj P0 Q R R2 1000 (Zk 8 m l (.table t) ks vs c i j)=(
 (bif decide (i < ((List.length l):Int))then(bif decide (0<=i)&&Nat.blt (Int.toNat i) (List.length l)then(bif Nat.blt (0+Int.toNat i) (List.length l)then(((.int .i64 (AB.cost (mW m c))):Value)=(.int .i64 (AB.cost (mW m c))))/\(((.pointer (some ⟨9,10,none⟩)):Value)=(.pointer (some ⟨9,10,none⟩)))/\(p_ 9=p_ 9)/\(p_ 9=p_ 9)/\(R2 (Zk 8 m l (Pk.table t) ks vs (IntKind.wrap .i64 (AB.cost (mW m c)+IntKind.wrap .i64 (IntKind.wrap .i64 (16+Int.ofNat (ByteArray.size (Prod.fst (List.getD l (0+Int.toNat i) (EK.AZ AR)))))+Int.ofNat (ByteArray.size (Prod.snd (List.getD l (0+Int.toNat i) (EK.AZ AR))))))) (IntKind.wrap .i64 (i+1)) j))else False)else False)else((List.length l=List.length l/\AF=AF)/\List.length l < 1000000)/\(p_ 9=p_ 9)/\(Q (.int .i64 0) [some (.cells [(.int .i64 (List.getD (AB.cfg (mW m c)) 0 0)),(.int .i64 (List.getD (AB.cfg (mW m c)) 1 0)),(.int .i64 (List.getD (AB.cfg (mW m c)) 2 0)),(.int .i64 (List.getD (AB.cfg (mW m c)) 3 0)),(.int .i64 (List.getD (AB.cfg (mW m c)) 4 0)),(.int .i64 (List.getD (AB.cfg (mW m c)) 5 0)),(.int .i64 (List.getD (AB.cfg (mW m c)) 6 0)),(.int .i64 (AB.AN (mW m c))),(p_ 25),(p_ 24),(.int .i64 (AB.cost (mW m c))),(.slice none 0 0),(.pointer none),(.int .i64 0),(.bool (AB.AG (mW m c)))] 0 false),some (.vec ([SK.str,SK.str]) l false),some (.cells [(.bool true),(.slice (some ⟨12,0,(some 0)⟩) (List.length l) 18446744073709551616)] 0 false),some (.abs (Ab.pack (Pk.table l)) false)]))):=by kernel_rfl
theorem Xe (m:AB) (l t:List (EK.C AR)) (ks vs:List (EK.C kS)) (c i j:Int) (Q:Value->List (Option AK)->Prop) (R R2:A8->Prop):Xl XO Zj AD [9,12,24,25] bM Pj P0 Q R R2 1000 (Zk 2 m l (.table t) ks vs c i j)=(
 (bif decide (i < ((List.length l):Int))then(bif decide (0<=i)&&Nat.blt (Int.toNat i) (List.length l)then(bif Nat.blt (0+Int.toNat i) (List.length l)then(((.int .i64 (AB.cost (mW m c))):Value)=(.int .i64 (AB.cost (mW m c))))/\(((.pointer (some ⟨9,10,none⟩)):Value)=(.pointer (some ⟨9,10,none⟩)))/\(p_ 9=p_ 9)/\(p_ 9=p_ 9)/\(R2 (Zk 2 m l (Pk.table t) ks vs (IntKind.wrap .i64 (AB.cost (mW m c)+IntKind.wrap .i64 (IntKind.wrap .i64 (16+Int.ofNat (ByteArray.size (Prod.fst (List.getD l (0+Int.toNat i) (EK.AZ AR)))))+Int.ofNat (ByteArray.size (Prod.snd (List.getD l (0+Int.toNat i) (EK.AZ AR))))))) (IntKind.wrap .i64 (i+1)) j))else False)else False)else((List.length l=List.length l/\AF=AF)/\List.length l < 1000000)/\(p_ 9=p_ 9)/\(Q (.int .i64 0) [some (.cells [(.int .i64 (List.getD (AB.cfg (mW m c)) 0 0)),(.int .i64 (List.getD (AB.cfg (mW m c)) 1 0)),(.int .i64 (List.getD (AB.cfg (mW m c)) 2 0)),(.int .i64 (List.getD (AB.cfg (mW m c)) 3 0)),(.int .i64 (List.getD (AB.cfg (mW m c)) 4 0)),(.int .i64 (List.getD (AB.cfg (mW m c)) 5 0)),(.int .i64 (List.getD (AB.cfg (mW m c)) 6 0)),(.int .i64 (AB.AN (mW m c))),(p_ 25),(p_ 24),(.int .i64 (AB.cost (mW m c))),(.slice none 0 0),(.pointer none),(.int .i64 0),(.bool (AB.AG (mW m c)))] 0 false),some (.vec ([SK.str,SK.str]) l false),some (.cells [(.bool true),(.slice (some ⟨12,0,(some 0)⟩) (List.length l) 18446744073709551616)] 0 false),some (.abs (Ab.pack (Pk.table l)) false)]))):=by kernel_rfl
def iF:Pf:=fun g=>bif Nat.beq g Hl then some (fun _ _ _=>False)else C4 g
theorem fo (m:AB) (ks vs:List (EK.C kS)) (n1 c1 n2 c2 j:Nat) (Q:Value->List (Option AK)->Prop):Ex XO iF AD [9,12,13,14] Q 600 (st AD 68 [p9,.slice (some ⟨10,0,some 0⟩) n1 c1,.slice (some ⟨11,0,some j⟩) n2 c2] (VJ (mW m m.cost) ks vs))=(
 (bif Int.ofNat n1 != Int.ofNat n2 then(Q (.int .i64 7) [some (.cells [(.int .i64 (List.getD (AB.cfg (mW m (AB.cost m))) 0 0)),(.int .i64 (List.getD (AB.cfg (mW m (AB.cost m))) 1 0)),(.int .i64 (List.getD (AB.cfg (mW m (AB.cost m))) 2 0)),(.int .i64 (List.getD (AB.cfg (mW m (AB.cost m))) 3 0)),(.int .i64 (List.getD (AB.cfg (mW m (AB.cost m))) 4 0)),(.int .i64 (List.getD (AB.cfg (mW m (AB.cost m))) 5 0)),(.int .i64 (List.getD (AB.cfg (mW m (AB.cost m))) 6 0)),(.int .i64 (AB.AN (mW m (AB.cost m)))),(p_ 12),(p_ 13),(.int .i64 (AB.cost (mW m (AB.cost m)))),(.slice (some ⟨14,0,(some 0)⟩) (List.length (AB.AJ (mW m (AB.cost m)))) 18446744073709551616),(.pointer none),(.int .i64 (AB.state (mW m (AB.cost m)))),(.bool (AB.AG (mW m (AB.cost m))))] 0 false),some (.abs (Ab.pack (Pk.table (AB.base (mW m (AB.cost m))))) false),some (.abs (Ab.pack (Pk.table (AB.now (mW m (AB.cost m))))) false),some (.vec BL (AB.AJ (mW m (AB.cost m))) false)])else False)):=by kernel_rfl
def BT:List (EK.C AR)->List (EK.C BL)->List (List (EK.C AR))
 | b,[]=>[b]
 | b,u::us=>b::BT (JN b u.1 u.2.1 u.2.2) us
def Je (L:List (List (EK.C AR))):Prop:=∀l∈L,A5 l/\Dz l
def Cq (L:List (List (EK.C AR))) (ks vs:List (EK.C kS)):Option (List (EK.C AR)):=L.find? fun l=>DB l ks vs
def mO (m:AB) (l:List (EK.C AR)):AB:=⟨m.cfg,m.AN,l,l,BG l,[],0,m.AG⟩
def jZ (m:AB) (r:Option (List (EK.C AR))) (v:Value) (H:AA):Prop:=match r with
 | none=>v= .int .i64 7/\H.get 9=some (Dy (mW m m.cost) 21 22 14)/\H.get 14=some (.vec BL m.AJ false)/\H.get 21=some (Bi m.base)/\H.get 22=some (Bi m.now)
 | some l=>v= .int .i64 0/\H.get 9=some (.cells (BN (mO m l) 25 24 (.slice none 0 0)) 0 false)/\H.get 12=some (.vec AR l false)/\H.get 24=some (CS 12 l.length)/\H.get 25=some (Bi l)
theorem G4:Eg XO Zj:=Ap (fun _ _ _ h=>A9 (by kernel_rfl) h) (Ap (fun _ _ _ h=>A9 (by kernel_rfl) h) (Ap (fun _ _ _ h=>A9 (by kernel_rfl) h) (Ap (fun _ _ _ h=>A9 (by kernel_rfl) h) (A6 _))))
theorem a8:Eg XO iF:=Ap (fun _ _ _ h=>h.elim) (A6 _)
theorem gi:A4 Tryz.prog AL kP:=A4.cons gC (A4.cons ZW (A4.cons Wc (A4.cons X1 (A4.nil _ _))))
section
variable {m:AB} {ks vs:List (EK.C kS)} {l t:List (EK.C AR)}
theorem HW (hs:Dz l) {i:Nat} (hlt:i < l.length):IntKind.wrap .i64 (BG (l.take i)+IntKind.wrap .i64 (IntKind.wrap .i64 (16+Int.ofNat (l[i]).1.size)+Int.ofNat (l[i]).2.size))=BG (l.take (i+1)):=by
 have hx:l.take (i+1)=l.take i++[l[i]]:=by rw[List.take_succ_eq_append_getElem hlt]
 have hc:BG (l.take (i+1))=BG (l.take i)+Cm l[i]:=by rw[hx];unfold BG;rw[List.map_append,List.sum_append];simp
 have hb1:=J8 (l.take i) (fun y hy=>hs.2 y (List.mem_of_mem_take hy));have hb2:=hs.2 l[i] (List.getElem_mem hlt);have hlen:(l.take i).length<=1000000:=by rw[List.length_take];have:=hs.1;omega
 rw[hc];have hsz1:(Int.ofNat (l[i]).1.size)=((l[i]).1.size:Int):=rfl;have hsz2:(Int.ofNat (l[i]).2.size)=((l[i]).2.size:Int):=rfl;rw[hsz1,hsz2,Gq (x:=16+((l[i]).1.size:Int)) (by omega) (by omega),Gq (x:=16+((l[i]).1.size:Int)+((l[i]).2.size:Int)) (by omega) (by omega)];have hp:Cm l[i]=16+((l[i]).1.size:Int)+((l[i]).2.size:Int):=rfl;rw[Gq (by omega) (by omega),hp]
theorem fO {v:Value} {H:AA} (h:v= .int .i64 0/\([9,12,24,25]++Af 4 v).map H.get=[some (.cells (BN (mO m l) 25 24 (.slice none 0 0)) 0 false),some (.vec AR l false),some (CS 12 l.length),some (Bi l)]):jZ m (some l) v H:=by
 obtain⟨rfl,h⟩:=h;have h:[H.get 9,H.get 12,H.get 24,H.get 25]=_:=h;simp only[List.cons.injEq,and_true]at h;exact⟨rfl,h.1,h.2.1,h.2.2.1,h.2.2.2⟩
theorem dh (hs:Dz l) (td:Nat) (htd:td=8∨td=2) (j:Int):∀(q i:Nat),l.length - i=q->i<=l.length->
 Ad XO 12 AD (jZ m (some l)) (Zk td m l (.table t) ks vs (BG (l.take i)) i j):=by
 intro q;induction q with
 | zero=>
  intro i hm hi;have he:i=l.length:=by omega
  subst he;refine Gw G4 (ids:=[9,12,24,25]) (S:=bM) (S2:=Pj) (ks:=P0) (by kernel_rfl) rfl rfl (Q:=fun v os=>v= .int .i64 0/\os=[some (.cells (BN (mO m l) 25 24 (.slice none 0 0)) 0 false),some (.vec AR l false),some (CS 12 l.length),some (Bi l)]) (R:=fun _=>False) (R2:=fun _=>False) (fun v H h=>fO h) (fun c h=>h.elim) (fun c h=>h.elim) 1000 _ ?_;rw[List.take_length];have hno:¬((l.length:Nat):Int) < ((List.length l:Nat):Int):=Int.lt_irrefl _;rcases htd with rfl | rfl
  ·rw[ZV];exact AU (fun h=>absurd h hno) (fun _=>⟨⟨⟨rfl,rfl⟩,hs.1⟩,rfl,rfl,by unfold CS AF;rfl⟩)
  ·rw[Xe];exact AU (fun h=>absurd h hno) (fun _=>⟨⟨⟨rfl,rfl⟩,hs.1⟩,rfl,rfl,by unfold CS AF;rfl⟩)
 | succ q ih=>
  intro i hm hi;have hlt:i < l.length:=by omega
  refine Gw G4 (ids:=[9,12,24,25]) (S:=bM) (S2:=Pj) (ks:=P0) (by kernel_rfl) rfl rfl (Q:=fun _ _=>False) (R:=fun _=>False) (R2:=fun c=>c=Zk td m l (.table t) ks vs (BG (l.take (i+1))) (i+1:Nat) j) (fun v H h=>h.elim) (fun c h=>h.elim) (fun c h=>by rw[h];exact ih (i+1) (by omega) (by omega)) 1000 _ ?_;have hl2:((i:Nat):Int) < ((List.length l:Nat):Int):=by omega
  have hw:AB.cost (mW m (BG (l.take i)))=BG (l.take i):=rfl;rcases htd with rfl | rfl
  ·rw[ZV,Ci hlt,hw,HW hs hlt,Bv (by have:=hs.1;omega)];exact AU (fun _=>AH (ca hlt) (AH (cb hlt) ⟨rfl,rfl,rfl,rfl,rfl⟩)) (fun h=>absurd hl2 h)
  ·rw[Xe,Ci hlt,hw,HW hs hlt,Bv (by have:=hs.1;omega)];exact AU (fun _=>AH (ca hlt) (AH (cb hlt) ⟨rfl,rfl,rfl,rfl,rfl⟩)) (fun h=>absurd hl2 h)
theorem cp (hkv:ks.length=vs.length) (hu:m.AJ.length < 1000000):∀(us:List (EK.C BL)) (i:Nat) (t:List (EK.C AR)),m.AJ.drop i=us->i<=m.AJ.length->Je (BT t us)->
 Ad XO 12 AD (jZ m (Cq (BT t us) ks vs)) (gf m (.table t) ks vs i):=by
 intro us;induction us with
 | nil=>
  intro i t hd hi hg;have he:i=m.AJ.length:=by
   have:=congrArg List.length hd;rw[List.length_drop,List.length_nil]at this;omega
  subst he;obtain⟨h1,h2⟩:=hg t (by unfold BT;simp);refine Gw G4 (ids:=[9,14,21,22]) (S:=bM) (S2:=Pj) (ks:=P0) (by kernel_rfl) rfl rfl (Q:=fun v os=>DB t ks vs=false/\v= .int .i64 7/\os=[some (Dy (mW m m.cost) 21 22 14),some (.vec BL m.AJ false),some (Bi m.base),some (Bi m.now)]) (R:=fun _=>False)
   (R2:=fun c=>DB t ks vs=true/\∃j,c=Zk 2 m t (.table t) ks vs 0 0 j) (fun v H h=>?_) (fun c h=>h.elim) (fun c h=>?_) 1000 _ ?_
  ·obtain⟨e,rfl,h⟩:=h;have h:[H.get 9,H.get 14,H.get 21,H.get 22]=_:=h;simp only[List.cons.injEq,and_true]at h;have:Cq (BT t []) ks vs=none:=by unfold Cq BT;simp[e]
   rw[this];exact⟨rfl,h.1,h.2.1,h.2.2.1,h.2.2.2⟩
  ·obtain⟨e,j,rfl⟩:=h;have:Cq (BT t []) ks vs=some t:=by unfold Cq BT;simp[e]
   rw[this];have:=dh (m:=m) (t:=t) (ks:=ks) (vs:=vs) h2 2 (.inr rfl) j t.length 0 (by omega) (by omega);exact this
  ·rw[db];refine AU (fun h=>absurd h (by show ¬((m.AJ.length:Nat):Int) < ((List.length m.AJ:Nat):Int);omega)) (fun _=>⟨⟨⟨rfl,rfl⟩,⟨rfl,rfl⟩,hkv,h2.1⟩,Ae (fun e=>⟨h2.1,rfl,AH (by simp) ⟨e,_,rfl⟩⟩) (fun e=>⟨e,rfl,by unfold Dy AF;rfl⟩)⟩)
 | cons u us ih=>
  intro i t hd hi hg;have hlt:i < m.AJ.length:=by
   have:=congrArg List.length hd;rw[List.length_drop,List.length_cons]at this;omega
  rw[List.drop_eq_getElem_cons hlt]at hd;simp only[List.cons.injEq]at hd;obtain⟨hd1,hd2⟩:=hd;obtain⟨h1,h2⟩:=hg t (by unfold BT;simp);have hg2:Je (BT (JN t u.1 u.2.1 u.2.2) us):=fun l hl=>hg l (by unfold BT;exact List.mem_cons_of_mem _ hl)
  refine Gw G4 (ids:=[9,14,21,22]) (S:=bM) (S2:=Pj) (ks:=P0) (by kernel_rfl) rfl rfl (Q:=fun _ _=>False) (R:=fun c=>DB t ks vs=false/\c=gf m (.table (JN t u.1 u.2.1 u.2.2)) ks vs (i+1:Nat))
   (R2:=fun c=>DB t ks vs=true/\∃j,c=Zk 8 m t (.table t) ks vs 0 0 j) (fun v H h=>h.elim) (fun c h=>?_) (fun c h=>?_) 1000 _ ?_
  ·obtain⟨e,rfl⟩:=h;have:Cq (BT t (u::us)) ks vs=Cq (BT (JN t u.1 u.2.1 u.2.2) us) ks vs:=by
    unfold Cq;rw[BT,List.find?_cons,e]
   rw[this];exact ih (i+1) _ hd2 hlt hg2
  ·obtain⟨e,j,rfl⟩:=h;have:Cq (BT t (u::us)) ks vs=some t:=by
    unfold Cq;rw[BT,List.find?_cons,e]
   rw[this];exact dh (m:=m) (t:=t) (ks:=ks) (vs:=vs) h2 8 (.inl rfl) j t.length 0 (by omega) (by omega)
  ·rw[db];refine AU (fun _=>?_) (fun h=>absurd (show(i:Int) < ((List.length m.AJ:Nat):Int) by omega) h);refine AH (ca hlt) (AH (cb hlt) ⟨⟨⟨rfl,rfl⟩,⟨rfl,rfl⟩,hkv,h2.1⟩,Ae (fun e=>⟨h2.1,rfl,AH (by simp) ⟨e,_,rfl⟩⟩) (fun e=>⟨⟨h1,h2.1⟩,e,?_⟩)⟩);rw[Ci hlt,hd1,Bv (by omega)]
end
structure cd (m:AB) (ks vs:List (EK.C kS)):Prop where
 st:m.state=2
 AJ:m.AJ.length < 1000000
 JT:Je (BT m.base m.AJ)
 kv:ks.length=vs.length
def cF (m:AB) (ks vs:List (EK.C kS)):AB:=match Cq (BT m.base m.AJ) ks vs with
 | some l=>mO m l
 | none=>m
def gL (m:AB) (ks vs:List (EK.C kS)):Int:=match Cq (BT m.base m.AJ) ks vs with
 | some _=>0
 | none=>7
structure kJ (m:AB) (n1 n2:Nat):Prop where
 st:m.state=2
 ne:n1≠n2
def iW (args:List Value) (objs:List AK):GT:=
 match args,objs with
 | [.pointer (some ⟨9,0,none⟩),.slice (some ⟨10,0,some 0⟩) n1 c1,.slice (some ⟨11,0,some 0⟩) n2 c2],[.abs (.pack (.model m)) _,.vec [.str] ks _,.vec [.str] vs _]=>
  .ask ((n1=ks.length/\c1=AF)/\(n2=vs.length/\c2=AF)/\cd m ks vs) (.ret ⟨.int .i64 (gL m ks vs),[some (.abs (.pack (.model (cF m ks vs))) false)],[]⟩)
 | [.pointer (some ⟨9,0,none⟩),.slice (some ⟨10,0,some 0⟩) n1 _,.slice (some ⟨11,0,some _⟩) n2 _],[.abs (.pack (.model m)) _,.vec [.str] _ _,.vec [.str] _ _]=>
  .ask (kJ m n1 n2) (.ret ⟨.int .i64 7,[some (.abs (.pack (.model m)) false)],[]⟩)
 | _,_=> .fail
theorem Nw {m:AB} (h:m.state=2):mW m m.cost=m:=by
 obtain⟨cfg,lim,bs,nw,cost,AJ,st0,pl⟩:=m;cases h;rfl
theorem UZ {m:AB} {l1 l2:List (EK.C kS)} {args:List Value} {Q:Value->AA->Prop} (h:Aq XO 12 (fun b=>9<=b/\b < 12) AD Q (st AD 68 args (VJ m l1 l2))):
 Aq XO 12 (fun b=>9<=b/\b < 12) AD Q (st AD 68 args (SM m l1 l2)):=by
 refine Aq.opened (b:=9) (s:= .model m) (ro:=false) ⟨by omega,by omega⟩ (by show(SM m l1 l2).get 9=_;kernel_rfl) (fun ops p k h=>by cases h) fun objs hr=>?_
 cases hr with
 | model=>
  refine⟨_,LR (H:=SM m l1 l2) (b:=9) (ro:=false) (o1:= .cells (BN m 12 13 (.slice (some ⟨14,0,some 0⟩) m.AJ.length AF)) 0 false) (ps1:=[.abs (.pack (.table m.base)) false,.abs (.pack (.table m.now)) false,.vec BL m.AJ false]) (show 9 < 12 by decide) (YJ m l1 l2) rfl rfl (fun i p hp=>?_),?_⟩
  ·cases i with
   | zero=>cases hp;exact⟨_,rfl,rfl⟩
   | succ i=>cases i with
    | zero=>cases hp;exact⟨_,rfl,rfl⟩
    | succ i=>cases i with
     | zero=>cases hp;exact⟨_,rfl,rfl⟩
     | succ i=>cases i<;>cases hp
  ·rw[cU];exact h
theorem eW {m:AB} {ks vs:List (EK.C kS)} (hok:cd m ks vs):Aq XO 12 (fun b=>9<=b/\b < 12) AD (fun v H=>v= .int .i64 (gL m ks vs)/\FT H (cF m ks vs)) (st AD 68 [p9,CT 10 ks.length,CT 11 vs.length] (VJ m ks vs)):=by
 obtain⟨hst,hu,hg,hkv⟩:=hok;have hE:Ad XO 12 AD (jZ m (Cq (BT m.base m.AJ) ks vs)) (st AD 68 [p9,CT 10 ks.length,CT 11 vs.length] (VJ (mW m m.cost) ks vs)):=by
  refine Gw G4 (ids:=[9,12,13,14]) (S:=bM) (S2:=Pj) (ks:=P0) (by kernel_rfl) rfl rfl (Q:=fun _ _=>False) (R:=fun c=>c=gf m (.table m.base) ks vs 0) (R2:=fun _=>False) (fun v H h=>h.elim) (fun c h=>?_) (fun c h=>h.elim) 1000 _ ?_
  ·rw[h];exact cp hkv hu m.AJ 0 m.base rfl (Nat.zero_le _) hg
  ·rw[eL];have hb:m.base.length < 1000000:=by
    have:=(hg m.base (by cases m.AJ<;>(unfold BT;simp))).2;exact this.1
   refine EY (by rw[hkv];simp) ⟨hb,rfl⟩
 rw[Nw hst]at hE;refine Aq.tell (Aq.shut (Q':=fun v H=>match Cq (BT m.base m.AJ) ks vs with
  | none=>v= .int .i64 7/\FT H m
  | some l=>v= .int .i64 0/\H.get 9=some (.cells (BN (mO m l) 25 24 (.slice none 0 0)) 0 false)/\H.get 24=some (Bi l)/\H.get 25=some (Bi l)) hE.IC fun v H h=>?_) ?_
 ·generalize Cq (BT m.base m.AJ) ks vs=r at h;cases r with
  | none=>
   obtain⟨rfl,g9,g14,g21,g22⟩:=h;rw[Nw hst]at g9;exact⟨H,.refl _,rfl,21,22,14,by decide,by decide,by decide,by decide,by decide,by decide,g21,g22,g9,g14⟩
  | some l=>
   obtain⟨rfl,g9,g12,g24,g25⟩:=h;have s2:=B6 (s:= .table l) (bs:=[24,12]) (H:=H) (by simp);have hR:∀y,y=24∨y=12->y∈Am H 0 200 [9] []:=by
    intro y hy;rw[As g9 rfl];show y∈Am H 0 199 [25,24] [9];rw[As g25 rfl];show y∈Am H 0 198 [24] [9,25];rw[As g24 rfl];show y∈Am H 0 197 [12] [9,25,24];rw[As g12 rfl];exact Bf H 0 _ _ _ y (by rcases hy with rfl | rfl<;>simp)
   refine⟨DE (.table l) [24,12] H,OA (s:= .table l) (b:=24) (n:=12) (rs:=[9]) (.table l) (fun b hb=>by rw[List.mem_singleton]at hb;subst hb;exact .inr ⟨by decide,by decide⟩) (hR 24 (.inl rfl)) (hR 12 (.inr rfl)) (by decide) g24 rfl rfl rfl g12 rfl rfl rfl (.refl _),rfl,?_,s2.root 24 rfl,?_⟩
   ·rw[s2.C2 9 (by simp)];exact g9
   ·rw[s2.C2 25 (by simp)];exact g25
 ·intro v H h;unfold gL cF;generalize Cq (BT m.base m.AJ) ks vs=r at h ⊢;cases r with
  | none=>exact⟨v,H,fun base W0 μ W v' _ hv hH=>⟨μ,Ai.le_refl _,hH,hv⟩,h⟩
  | some l=>
   obtain⟨rfl,g9,g24,g25⟩:=h;obtain⟨v2,H2,k1,rfl,k2⟩:=Py (D:=fun b=>9<=b/\b < 12) (v:= .int .i64 0) (m:=mO m l) rfl (by decide) (by decide) (by decide) (by decide) (by decide) g9 g25 g24 ⟨by decide,by decide⟩;exact⟨_,H2,k1,rfl,k2⟩
theorem eN:C3 Tryz.prog AL AD (Al AL 9 [true] iW):=by
 refine BY gi (by kernel_rfl) (n:=68) (by kernel_rfl) (by kernel_rfl) fun argsc objs x hx hro=>?_
 have fin:∀(v:Value) (m:AB) (H:AA),Ct 6 v=true->FT H m->∃H2,CE (fun b=>9<=b/\b < 9+3) v H H2/\CY AL 9 3 [true] ⟨v,[some (.abs (.pack (.model m)) false)],[]⟩ v H2:=by
  intro v m H hv hM;obtain⟨H2,k1,k2⟩:=QF (D:=fun b=>9<=b/\b < 9+3) (v:=v) ⟨Nat.le_refl 9,by decide⟩ hM;refine⟨H2,k1,[],List.nodup_nil,(fun c hc=>by cases hc),rfl,IZ 6 v hv,(fun j c p hj hp=>by cases hj),fun j o hj hm ho=>?_⟩;cases j with
  | zero=>cases ho;exact⟨_,rfl,k2⟩
  | succ j=>cases ho
 unfold iW at hx;split at hx
 ·rename_i n1 c1 n2 c2 m ro ks r1 vs r2;simp only[GT.run]at hx;split at hx
  ·rename_i hok;obtain⟨⟨rfl,rfl⟩,⟨rfl,rfl⟩,hok⟩:=hok;cases hx
   have hr0:ro=false:=hro 0 _ rfl rfl;subst hr0;refine⟨by simp,?_⟩;show Aq XO 12 (fun b=>9<=b/\b < 12) AD _ (st AD 68 [p9,CT 10 ks.length,CT 11 vs.length] (SM m ks vs));refine Aq.shut (UZ (eW hok)) ?_;rintro v H ⟨rfl,hM⟩;exact fin _ _ H rfl hM
  ·cases hx
 ·rename_i n1 c1 j n2 c2 m ro ks r1 vs r2 _;simp only[GT.run]at hx;split at hx
  ·rename_i hok;obtain⟨hst,hne⟩:=hok;cases hx
   have hr0:ro=false:=hro 0 _ rfl rfl;subst hr0;refine⟨by simp,?_⟩;show Aq XO 12 (fun b=>9<=b/\b < 12) AD _ (st AD 68 [p9,.slice (some ⟨10,0,some 0⟩) n1 c1,.slice (some ⟨11,0,some j⟩) n2 c2] (SM m ks vs));refine Aq.shut (Q:=fun v H=>v= .int .i64 7/\FT H m) (UZ ?_) ?_
   ·rw[<-Nw hst];refine Aq.mono (Ad.IC (BW.Fk (Bt a8 (ids:=[9,12,13,14]) (Q:=fun v os=>v= .int .i64 7/\os=[some (Dy m 12 13 14),some (Bi m.base),some (Bi m.now),some (.vec BL m.AJ false)]) 600 _ ?_))) ?_
    ·rw[fo];refine AH ?_ ⟨rfl,by rw[Nw hst];unfold Dy AF;rfl⟩;have:Int.ofNat n1≠Int.ofNat n2:=fun e=>hne (Int.ofNat.inj e)
     simpa using this
    ·rintro v H ⟨rfl,h⟩;have h:[H.get 9,H.get 12,H.get 13,H.get 14]=_:=h;simp only[List.cons.injEq,and_true]at h;rw[Nw hst];exact⟨rfl,12,13,14,by decide,by decide,by decide,by decide,by decide,by decide,h.2.1,h.2.2.1,h.1,h.2.2.2⟩
   ·rintro v H ⟨rfl,hM⟩;exact fin _ _ H rfl hM
  ·cases hx
 ·cases hx
end Go.AI
namespace Go.AI
def FO (b:Nat) (c:A8):Bool:=match c.fr.todo with
 | _:: .inBlock k::_=>Nat.beq k b
 | _=>false
def SQ (X:Ctx) (pf:Pf) (f:FuncId) (ids:List Nat) (S:Stop) (b:Nat) (S2:Stop) (b2:Nat) (ks:List (FuncId × List Nat)) (Q:Value->List (Option AK)->Prop) (R R2:A8->Prop) (n:Nat):A8->Prop:=
 Nat.rec (motive:=fun _=>A8->Prop) (fun _=>False) (fun _ ih c=>match DX X f c with
  | some (v,H)=>Q v ((ids++Af 4 v).map H.get)
  | none=>bif S.here c&&FO b c then(match S.IY X ks c with
   | some c2=>R c2
   | none=>False)
   else bif S2.here c&&FO b2 c then(match S2.IY X ks c with
    | some c2=>R2 c2
    | none=>False)
   else Ft X pf c ih) n
theorem LZ {X:Ctx} {pf:Pf} (hpf:Eg X pf) {f:FuncId} {ids:List Nat} {N:Nat} {S S2:Stop} {b b2:Nat} {ks:List (FuncId × List Nat)} (hl:(X.laid.all fun p=>Nat.blt p.1 N)=true) (hN:S.N=N) (hN2:S2.N=N) {Q:Value->List (Option AK)->Prop} {R R2:A8->Prop} {Q':Value->AA->Prop}
 (hQ:∀v H,Q v ((ids++Af 4 v).map H.get)->Q' v H) (hR:∀c,R c->Ad X N f Q' c) (hR2:∀c,R2 c->Ad X N f Q' c):∀(n:Nat) (c:A8),SQ X pf f ids S b S2 b2 ks Q R R2 n c->Ad X N f Q' c:=by
 intro n;induction n with
 | zero=>intro c h;cases h
 | succ n ih=>
  intro c h;have h:(match DX X f c with
   | some (v,H)=>Q v ((ids++Af 4 v).map H.get)
   | none=>bif S.here c&&FO b c then(match S.IY X ks c with
    | some c2=>R c2
    | none=>False)
    else bif S2.here c&&FO b2 c then(match S2.IY X ks c with
     | some c2=>R2 c2
     | none=>False)
    else Ft X pf c (SQ X pf f ids S b S2 b2 ks Q R R2 n)):=h
  split at h
  ·rename_i v H e;exact BC.here ⟨v,H,e,hQ v H h⟩
  ·cases hs:S.here c&&FO b c
   ·simp only[hs,cond_false]at h;cases hs2:S2.here c&&FO b2 c
    ·simp only[hs2,cond_false]at h;exact BC.bind (Reach.Fk (Ge hpf h)) fun c' hc=>ih c' hc
    ·simp only[hs2,cond_true]at h;split at h
     ·rename_i c2 hc;have hr:=MO (X:=X) (S:=S2) (Φ:=fun c'=>∃v H,DX X f c'=some (v,H)/\Q' v H) (by rw[hN2];exact hl) hc (by rw[hN2];exact hR2 c2 h);rw[hN2]at hr;exact hr
     ·cases h
   ·simp only[hs,cond_true]at h;split at h
    ·rename_i c2 hc;have hr:=MO (X:=X) (S:=S) (Φ:=fun c'=>∃v H,DX X f c'=some (v,H)/\Q' v H) (by rw[hN];exact hl) hc (by rw[hN];exact hR c2 h);rw[hN]at hr;exact hr
    ·cases h
end Go.AI
namespace Go.AI
open Go.Proofs
def jc (m:AB) (k a b:Int) (key val:ByteArray) (e:Int) (sv:ByteArray):Int:=bif (L0 m k a b key val e sv).isSome then 0 else 7
def jd (m:AB) (k a b:Int) (key val:ByteArray) (e:Int) (sv:ByteArray):AB:=(L0 m k a b key val e sv).getD m
def fM (args:List Value) (objs:List AK):GT:=
 match args,objs with
 | [.pointer (some ⟨9,0,none⟩),.agg ⟨[.int .i64 k,.int .i64 a,.int .i64 b,.string key,.string val]⟩,.agg ⟨[.int .i64 e,.string sv]⟩],[.abs (.pack (.model m)) _]=>
  .ask (iG m k a b key val) (.ret ⟨.int .i64 (jc m k a b key val e sv),[some (.abs (.pack (.model (jd m k a b key val e sv))) false)],[]⟩)
 | _,_=> .fail
theorem Zb:C3 Tryz.prog AL AX (Al AL 9 [true] fM):=by
 refine C3.sub bA (Hw fun args objs x hx=>?_);unfold fM at hx;split at hx
 ·rename_i k a b key val e sv m ro;simp only[GT.run]at hx;split at hx
  ·rename_i hok;cases hx
   show(GT.ask (jV.ok m [E2 k a b key val,IK e sv]) _).run=_;simp only[GT.run];rw[if_pos (show jV.ok m [E2 k a b key val,IK e sv]from hok)];rfl
  ·cases hx
 ·cases hx
def DV (m:AB) (b n:Nat) (u:Value) (x:Nat):List Value:=
 [.int .i64 (m.cfg.getD 0 0),.int .i64 (m.cfg.getD 1 0),.int .i64 (m.cfg.getD 2 0),.int .i64 (m.cfg.getD 3 0),.int .i64 (m.cfg.getD 4 0),.int .i64 (m.cfg.getD 5 0),.int .i64 (m.cfg.getD 6 0),.int .i64 m.AN,
  .pointer (some ⟨b,0,none⟩),.pointer (some ⟨n,0,none⟩),.int .i64 m.cost,u,.pointer (some ⟨x,0,none⟩),.int .i64 m.state,.bool m.AG]
def II (del:Bool) (key val:ByteArray):AK:= .cells [.bool del,.string key,.string val] 0 false
def di (m:AB) (del:Bool) (key val:ByteArray):List AK:=[.cells (DV m 10 11 (.slice (some ⟨12,0,some 0⟩) m.AJ.length AF) 13) 0 false,Bi m.base,Bi m.now,.vec BL m.AJ false,II del key val]
abbrev vc_cpyI_0 (m:AB):AK:=(.cells [(.int .i64 (List.getD (AB.cfg m) 0 0)),(.int .i64 (List.getD (AB.cfg m) 1 0)),(.int .i64 (List.getD (AB.cfg m) 2 0)),(.int .i64 (List.getD (AB.cfg m) 3 0)),(.int .i64 (List.getD (AB.cfg m) 4 0)),(.int .i64 (List.getD (AB.cfg m) 5 0)),(.int .i64 (List.getD (AB.cfg m) 6 0)),(.int .i64 (AB.AN m)),(p_ 15),(p_ 16),(.int .i64 (AB.cost m)),(.slice (some ⟨18,0,(some 0)⟩) (0+List.length (AB.AJ m)) 18446744073709551616),(p_ 13),(.int .i64 (AB.state m)),(.bool (AB.AG m))] 0 false)
abbrev vc_cpyI_1 (m:AB):AK:=(.cells [(.int .i64 (List.getD (AB.cfg m) 0 0)),(.int .i64 (List.getD (AB.cfg m) 1 0)),(.int .i64 (List.getD (AB.cfg m) 2 0)),(.int .i64 (List.getD (AB.cfg m) 3 0)),(.int .i64 (List.getD (AB.cfg m) 4 0)),(.int .i64 (List.getD (AB.cfg m) 5 0)),(.int .i64 (List.getD (AB.cfg m) 6 0)),(.int .i64 (AB.AN m)),(p_ 10),(p_ 11),(.int .i64 (AB.cost m)),(.slice (some ⟨12,0,(some 0)⟩) (List.length (AB.AJ m)) 18446744073709551616),(p_ 13),(.int .i64 (AB.state m)),(.bool (AB.AG m))] 0 false)
abbrev vc_cpyI_2 (m:AB):AK:=(.cells [(.int .i64 (List.getD (AB.cfg m) 0 0)),(.int .i64 (List.getD (AB.cfg m) 1 0)),(.int .i64 (List.getD (AB.cfg m) 2 0)),(.int .i64 (List.getD (AB.cfg m) 3 0)),(.int .i64 (List.getD (AB.cfg m) 4 0)),(.int .i64 (List.getD (AB.cfg m) 5 0)),(.int .i64 (List.getD (AB.cfg m) 6 0)),(.int .i64 (AB.AN m)),(p_ 15),(p_ 16),(.int .i64 (AB.cost m)),(.slice (some ⟨17,0,none⟩) 0 0),(p_ 13),(.int .i64 (AB.state m)),(.bool (AB.AG m))] 0 false)
theorem bj (m:AB) (del:Bool) (key val:ByteArray) (Q:Value->List (Option AK)->Prop):av XM VV Aj [9,10,11,12,13,15,16,18] Q 1000 (st Aj 28 [p9] (BH ⟨.leaf,9⟩ (di m del key val)))=(
 (List.length (AB.base m) < 1000000)/\(((.slice (some ⟨12,0,(some 0)⟩) (List.length (AB.AJ m)) 18446744073709551616):Value)=(.slice (some ⟨12,0,(some 0)⟩) (List.length (AB.AJ m)) 18446744073709551616))/\(((.pointer (some ⟨9,11,none⟩)):Value)=(.pointer (some ⟨9,11,none⟩)))/\(p_ 9=p_ 9)/\(p_ 9=p_ 9)/\(p_ 11=p_ 11)/\(((.pointer (some ⟨9,9,none⟩)):Value)=(.pointer (some ⟨9,9,none⟩)))/\(p_ 9=p_ 9)/\(p_ 9=p_ 9)/\(List.length (AB.now m) < 1000000)/\(((.slice (some ⟨12,0,(some 0)⟩) (List.length (AB.AJ m)) 18446744073709551616):Value)=(.slice (some ⟨12,0,(some 0)⟩) (List.length (AB.AJ m)) 18446744073709551616))/\(((.pointer (some ⟨9,11,none⟩)):Value)=(.pointer (some ⟨9,11,none⟩)))/\(p_ 9=p_ 9)/\(p_ 9=p_ 9)/\(bif Nat.blt 0 (List.length (AB.AJ m))then(bif Nat.ble (0+List.length (AB.AJ m)) (List.length (AB.AJ m))then(bif Nat.beq (List.length (AB.AJ m)) 0 then(Q (p_ 14) [some (vc_cpyI_1 m),some (.abs (Ab.pack (Pk.table (AB.base m))) false),some (.abs (Ab.pack (Pk.table (AB.now m))) false),some (.vec BL (AB.AJ m) false),some (.cells [(.bool del),(.string key),(.string val)] 0 false),some (.abs (Ab.pack (Pk.table (AB.base m))) false),some (.abs (Ab.pack (Pk.table (AB.now m))) false),none,some (vc_cpyI_2 m)])else(bif BK 40 (0+List.length (AB.AJ m))then(Q (p_ 14) [some (vc_cpyI_1 m),some (.abs (Ab.pack (Pk.table (AB.base m))) false),some (.abs (Ab.pack (Pk.table (AB.now m))) false),some (.vec BL (AB.AJ m) false),some (.cells [(.bool del),(.string key),(.string val)] 0 false),some (.abs (Ab.pack (Pk.table (AB.base m))) false),some (.abs (Ab.pack (Pk.table (AB.now m))) false),some (.vec BL ([]++List.take (List.length (AB.AJ m)) (List.drop 0 (AB.AJ m))) false),some (vc_cpyI_0 m)])else False))else False)else( (Q (p_ 14) [some (vc_cpyI_1 m),some (.abs (Ab.pack (Pk.table (AB.base m))) false),some (.abs (Ab.pack (Pk.table (AB.now m))) false),some (.vec BL (AB.AJ m) false),some (.cells [(.bool del),(.string key),(.string val)] 0 false),some (.abs (Ab.pack (Pk.table (AB.base m))) false),some (.abs (Ab.pack (Pk.table (AB.now m))) false),none,some (.cells [(.int .i64 (List.getD (AB.cfg m) 0 0)),(.int .i64 (List.getD (AB.cfg m) 1 0)),(.int .i64 (List.getD (AB.cfg m) 2 0)),(.int .i64 (List.getD (AB.cfg m) 3 0)),(.int .i64 (List.getD (AB.cfg m) 4 0)),(.int .i64 (List.getD (AB.cfg m) 5 0)),(.int .i64 (List.getD (AB.cfg m) 6 0)),(.int .i64 (AB.AN m)),(p_ 15),(p_ 16),(.int .i64 (AB.cost m)),(.slice none 0 0),(p_ 13),(.int .i64 (AB.state m)),(.bool (AB.AG m))] 0 false)]))/\(bif Nat.ble (0+List.length (AB.AJ m)) (List.length (AB.AJ m))then(bif Nat.beq (List.length (AB.AJ m)) 0 then(Q (p_ 14) [some (vc_cpyI_1 m),some (.abs (Ab.pack (Pk.table (AB.base m))) false),some (.abs (Ab.pack (Pk.table (AB.now m))) false),some (.vec BL (AB.AJ m) false),some (.cells [(.bool del),(.string key),(.string val)] 0 false),some (.abs (Ab.pack (Pk.table (AB.base m))) false),some (.abs (Ab.pack (Pk.table (AB.now m))) false),none,some (vc_cpyI_2 m)])else(bif BK 40 (0+List.length (AB.AJ m))then(Q (p_ 14) [some (vc_cpyI_1 m),some (.abs (Ab.pack (Pk.table (AB.base m))) false),some (.abs (Ab.pack (Pk.table (AB.now m))) false),some (.vec BL (AB.AJ m) false),some (.cells [(.bool del),(.string key),(.string val)] 0 false),some (.abs (Ab.pack (Pk.table (AB.base m))) false),some (.abs (Ab.pack (Pk.table (AB.now m))) false),some (.vec BL ([]++List.take (List.length (AB.AJ m)) (List.drop 0 (AB.AJ m))) false),some (vc_cpyI_0 m)])else False))else False))):=by kernel_rfl
abbrev vc_waitsI_0 (m:AB):AK:=(.cells [(.int .i64 (List.getD (AB.cfg m) 0 0)),(.int .i64 (List.getD (AB.cfg m) 1 0)),(.int .i64 (List.getD (AB.cfg m) 2 0)),(.int .i64 (List.getD (AB.cfg m) 3 0)),(.int .i64 (List.getD (AB.cfg m) 4 0)),(.int .i64 (List.getD (AB.cfg m) 5 0)),(.int .i64 (List.getD (AB.cfg m) 6 0)),(.int .i64 (AB.AN m)),(p_ 10),(p_ 11),(.int .i64 (AB.cost m)),(.slice (some ⟨12,0,(some 0)⟩) (List.length (AB.AJ m)) 18446744073709551616),(p_ 13),(.int .i64 (AB.state m)),(.bool (AB.AG m))] 0 false)
theorem Vw (m:AB) (del:Bool) (key val:ByteArray) (Q:Value->List (Option AK)->Prop):Ex XM VV BO [9,10,11,12,13] Q 100 (st BO 12 [p9] (BH ⟨.leaf,9⟩ (di m del key val)))=(
 (bif AB.state m==2 then(Q (.bool true) [some (vc_waitsI_0 m),some (.abs (Ab.pack (Pk.table (AB.base m))) false),some (.abs (Ab.pack (Pk.table (AB.now m))) false),some (.vec BL (AB.AJ m) false),some (.cells [(.bool del),(.string key),(.string val)] 0 false)])else(Q (.bool false) [some (vc_waitsI_0 m),some (.abs (Ab.pack (Pk.table (AB.base m))) false),some (.abs (Ab.pack (Pk.table (AB.now m))) false),some (.vec BL (AB.AJ m) false),some (.cells [(.bool del),(.string key),(.string val)] 0 false)]))):=by kernel_rfl
abbrev vc_doI5_0 (m:AB):AK:=(.cells [(.int .i64 (List.getD (AB.cfg { cfg:=AB.cfg m,AN:=AB.AN m,base:=AB.base m,now:=AB.now m,cost:=AB.cost m,AJ:=AB.AJ m,state:=1,AG:=AB.AG m }) 0 0)),(.int .i64 (List.getD (AB.cfg { cfg:=AB.cfg m,AN:=AB.AN m,base:=AB.base m,now:=AB.now m,cost:=AB.cost m,AJ:=AB.AJ m,state:=1,AG:=AB.AG m }) 1 0)),(.int .i64 (List.getD (AB.cfg { cfg:=AB.cfg m,AN:=AB.AN m,base:=AB.base m,now:=AB.now m,cost:=AB.cost m,AJ:=AB.AJ m,state:=1,AG:=AB.AG m }) 2 0)),(.int .i64 (List.getD (AB.cfg { cfg:=AB.cfg m,AN:=AB.AN m,base:=AB.base m,now:=AB.now m,cost:=AB.cost m,AJ:=AB.AJ m,state:=1,AG:=AB.AG m }) 3 0)),(.int .i64 (List.getD (AB.cfg { cfg:=AB.cfg m,AN:=AB.AN m,base:=AB.base m,now:=AB.now m,cost:=AB.cost m,AJ:=AB.AJ m,state:=1,AG:=AB.AG m }) 4 0)),(.int .i64 (List.getD (AB.cfg { cfg:=AB.cfg m,AN:=AB.AN m,base:=AB.base m,now:=AB.now m,cost:=AB.cost m,AJ:=AB.AJ m,state:=1,AG:=AB.AG m }) 5 0)),(.int .i64 (List.getD (AB.cfg { cfg:=AB.cfg m,AN:=AB.AN m,base:=AB.base m,now:=AB.now m,cost:=AB.cost m,AJ:=AB.AJ m,state:=1,AG:=AB.AG m }) 6 0)),(.int .i64 (AB.AN { cfg:=AB.cfg m,AN:=AB.AN m,base:=AB.base m,now:=AB.now m,cost:=AB.cost m,AJ:=AB.AJ m,state:=1,AG:=AB.AG m })),(p_ 10),(p_ 11),(.int .i64 (AB.cost { cfg:=AB.cfg m,AN:=AB.AN m,base:=AB.base m,now:=AB.now m,cost:=AB.cost m,AJ:=AB.AJ m,state:=1,AG:=AB.AG m })),(.slice (some ⟨12,0,(some 0)⟩) (List.length (AB.AJ { cfg:=AB.cfg m,AN:=AB.AN m,base:=AB.base m,now:=AB.now m,cost:=AB.cost m,AJ:=AB.AJ m,state:=1,AG:=AB.AG m })) 18446744073709551616),(p_ 13),(.int .i64 (AB.state { cfg:=AB.cfg m,AN:=AB.AN m,base:=AB.base m,now:=AB.now m,cost:=AB.cost m,AJ:=AB.AJ m,state:=1,AG:=AB.AG m })),(.bool (AB.AG { cfg:=AB.cfg m,AN:=AB.AN m,base:=AB.base m,now:=AB.now m,cost:=AB.cost m,AJ:=AB.AJ m,state:=1,AG:=AB.AG m }))] 0 false)
theorem cm (m:AB) (del:Bool) (uk uv:ByteArray) (Q:Value->List (Option AK)->Prop):Ex fG So AX [9,10,11,12,13] Q 2000 (st AX 66 [p9,E2 5 0 0 e_ e_,IK 0 e_] (BH ⟨.leaf,9⟩ (di { m with state:=1 } del uk uv)))=(
 (Fe 5 0 0 e_ e_)/\(bif Hh 5 0 0 e_ e_ != 0 then(Q (.int .i64 7) [some (vc_doI5_0 m),some (.abs (Ab.pack (Pk.table (AB.base { cfg:=AB.cfg m,AN:=AB.AN m,base:=AB.base m,now:=AB.now m,cost:=AB.cost m,AJ:=AB.AJ m,state:=1,AG:=AB.AG m }))) false),some (.abs (Ab.pack (Pk.table (AB.now { cfg:=AB.cfg m,AN:=AB.AN m,base:=AB.base m,now:=AB.now m,cost:=AB.cost m,AJ:=AB.AJ m,state:=1,AG:=AB.AG m }))) false),some (.vec BL (AB.AJ { cfg:=AB.cfg m,AN:=AB.AN m,base:=AB.base m,now:=AB.now m,cost:=AB.cost m,AJ:=AB.AJ m,state:=1,AG:=AB.AG m }) false),some (.cells [(.bool del),(.string uk),(.string uv)] 0 false)])else(Q (.int .i64 7) [some (vc_doI5_0 m),some (.abs (Ab.pack (Pk.table (AB.base { cfg:=AB.cfg m,AN:=AB.AN m,base:=AB.base m,now:=AB.now m,cost:=AB.cost m,AJ:=AB.AJ m,state:=1,AG:=AB.AG m }))) false),some (.abs (Ab.pack (Pk.table (AB.now { cfg:=AB.cfg m,AN:=AB.AN m,base:=AB.base m,now:=AB.now m,cost:=AB.cost m,AJ:=AB.AJ m,state:=1,AG:=AB.AG m }))) false),some (.vec BL (AB.AJ { cfg:=AB.cfg m,AN:=AB.AN m,base:=AB.base m,now:=AB.now m,cost:=AB.cost m,AJ:=AB.AJ m,state:=1,AG:=AB.AG m }) false),some (.cells [(.bool del),(.string uk),(.string uv)] 0 false)]))):=by kernel_rfl
theorem aF (m:AB) (del:Bool) (uk uv:ByteArray) (Q:Value->List (Option AK)->Prop):Ex fG So AX [9,10,11,12,13] Q 2000 (st AX 66 [p9,E2 8 0 0 e_ e_,IK 0 e_] (BH ⟨.leaf,9⟩ (di { m with state:=1 } del uk uv)))=(
 (Fe 8 0 0 e_ e_)/\(bif Hh 8 0 0 e_ e_ != 0 then(Q (.int .i64 7) [some (.cells [(.int .i64 (List.getD (AB.cfg { cfg:=AB.cfg m,AN:=AB.AN m,base:=AB.base m,now:=AB.now m,cost:=AB.cost m,AJ:=AB.AJ m,state:=1,AG:=AB.AG m }) 0 0)),(.int .i64 (List.getD (AB.cfg { cfg:=AB.cfg m,AN:=AB.AN m,base:=AB.base m,now:=AB.now m,cost:=AB.cost m,AJ:=AB.AJ m,state:=1,AG:=AB.AG m }) 1 0)),(.int .i64 (List.getD (AB.cfg { cfg:=AB.cfg m,AN:=AB.AN m,base:=AB.base m,now:=AB.now m,cost:=AB.cost m,AJ:=AB.AJ m,state:=1,AG:=AB.AG m }) 2 0)),(.int .i64 (List.getD (AB.cfg { cfg:=AB.cfg m,AN:=AB.AN m,base:=AB.base m,now:=AB.now m,cost:=AB.cost m,AJ:=AB.AJ m,state:=1,AG:=AB.AG m }) 3 0)),(.int .i64 (List.getD (AB.cfg { cfg:=AB.cfg m,AN:=AB.AN m,base:=AB.base m,now:=AB.now m,cost:=AB.cost m,AJ:=AB.AJ m,state:=1,AG:=AB.AG m }) 4 0)),(.int .i64 (List.getD (AB.cfg { cfg:=AB.cfg m,AN:=AB.AN m,base:=AB.base m,now:=AB.now m,cost:=AB.cost m,AJ:=AB.AJ m,state:=1,AG:=AB.AG m }) 5 0)),(.int .i64 (List.getD (AB.cfg { cfg:=AB.cfg m,AN:=AB.AN m,base:=AB.base m,now:=AB.now m,cost:=AB.cost m,AJ:=AB.AJ m,state:=1,AG:=AB.AG m }) 6 0)),(.int .i64 (AB.AN { cfg:=AB.cfg m,AN:=AB.AN m,base:=AB.base m,now:=AB.now m,cost:=AB.cost m,AJ:=AB.AJ m,state:=1,AG:=AB.AG m })),(p_ 10),(p_ 11),(.int .i64 (AB.cost { cfg:=AB.cfg m,AN:=AB.AN m,base:=AB.base m,now:=AB.now m,cost:=AB.cost m,AJ:=AB.AJ m,state:=1,AG:=AB.AG m })),(.slice (some ⟨12,0,(some 0)⟩) (List.length (AB.AJ { cfg:=AB.cfg m,AN:=AB.AN m,base:=AB.base m,now:=AB.now m,cost:=AB.cost m,AJ:=AB.AJ m,state:=1,AG:=AB.AG m })) 18446744073709551616),(p_ 13),(.int .i64 (AB.state { cfg:=AB.cfg m,AN:=AB.AN m,base:=AB.base m,now:=AB.now m,cost:=AB.cost m,AJ:=AB.AJ m,state:=1,AG:=AB.AG m })),(.bool (AB.AG { cfg:=AB.cfg m,AN:=AB.AN m,base:=AB.base m,now:=AB.now m,cost:=AB.cost m,AJ:=AB.AJ m,state:=1,AG:=AB.AG m }))] 0 false),some (.abs (Ab.pack (Pk.table (AB.base { cfg:=AB.cfg m,AN:=AB.AN m,base:=AB.base m,now:=AB.now m,cost:=AB.cost m,AJ:=AB.AJ m,state:=1,AG:=AB.AG m }))) false),some (.abs (Ab.pack (Pk.table (AB.now { cfg:=AB.cfg m,AN:=AB.AN m,base:=AB.base m,now:=AB.now m,cost:=AB.cost m,AJ:=AB.AJ m,state:=1,AG:=AB.AG m }))) false),some (.vec BL (AB.AJ { cfg:=AB.cfg m,AN:=AB.AN m,base:=AB.base m,now:=AB.now m,cost:=AB.cost m,AJ:=AB.AJ m,state:=1,AG:=AB.AG m }) false),some (.cells [(.bool del),(.string uk),(.string uv)] 0 false)])else
 (Q (.int .i64 0) [some (.cells [(.int .i64 (List.getD (AB.cfg { cfg:=AB.cfg m,AN:=AB.AN m,base:=AB.base m,now:=AB.now m,cost:=AB.cost m,AJ:=AB.AJ m,state:=1,AG:=AB.AG m }) 0 0)),(.int .i64 (List.getD (AB.cfg { cfg:=AB.cfg m,AN:=AB.AN m,base:=AB.base m,now:=AB.now m,cost:=AB.cost m,AJ:=AB.AJ m,state:=1,AG:=AB.AG m }) 1 0)),(.int .i64 (List.getD (AB.cfg { cfg:=AB.cfg m,AN:=AB.AN m,base:=AB.base m,now:=AB.now m,cost:=AB.cost m,AJ:=AB.AJ m,state:=1,AG:=AB.AG m }) 2 0)),(.int .i64 (List.getD (AB.cfg { cfg:=AB.cfg m,AN:=AB.AN m,base:=AB.base m,now:=AB.now m,cost:=AB.cost m,AJ:=AB.AJ m,state:=1,AG:=AB.AG m }) 3 0)),(.int .i64 (List.getD (AB.cfg { cfg:=AB.cfg m,AN:=AB.AN m,base:=AB.base m,now:=AB.now m,cost:=AB.cost m,AJ:=AB.AJ m,state:=1,AG:=AB.AG m }) 4 0)),(.int .i64 (List.getD (AB.cfg { cfg:=AB.cfg m,AN:=AB.AN m,base:=AB.base m,now:=AB.now m,cost:=AB.cost m,AJ:=AB.AJ m,state:=1,AG:=AB.AG m }) 5 0)),(.int .i64 (List.getD (AB.cfg { cfg:=AB.cfg m,AN:=AB.AN m,base:=AB.base m,now:=AB.now m,cost:=AB.cost m,AJ:=AB.AJ m,state:=1,AG:=AB.AG m }) 6 0)),(.int .i64 (AB.AN { cfg:=AB.cfg m,AN:=AB.AN m,base:=AB.base m,now:=AB.now m,cost:=AB.cost m,AJ:=AB.AJ m,state:=1,AG:=AB.AG m })),(p_ 10),(p_ 11),(.int .i64 (AB.cost { cfg:=AB.cfg m,AN:=AB.AN m,base:=AB.base m,now:=AB.now m,cost:=AB.cost m,AJ:=AB.AJ m,state:=1,AG:=AB.AG m })),(.slice (some ⟨12,0,(some 0)⟩) (List.length (AB.AJ { cfg:=AB.cfg m,AN:=AB.AN m,base:=AB.base m,now:=AB.now m,cost:=AB.cost m,AJ:=AB.AJ m,state:=1,AG:=AB.AG m })) 18446744073709551616),(p_ 13),(.int .i64 2),(.bool (AB.AG { cfg:=AB.cfg m,AN:=AB.AN m,base:=AB.base m,now:=AB.now m,cost:=AB.cost m,AJ:=AB.AJ m,state:=1,AG:=AB.AG m }))] 0 false),some (.abs (Ab.pack (Pk.table (AB.base { cfg:=AB.cfg m,AN:=AB.AN m,base:=AB.base m,now:=AB.now m,cost:=AB.cost m,AJ:=AB.AJ m,state:=1,AG:=AB.AG m }))) false),some (.abs (Ab.pack (Pk.table (AB.now { cfg:=AB.cfg m,AN:=AB.AN m,base:=AB.base m,now:=AB.now m,cost:=AB.cost m,AJ:=AB.AJ m,state:=1,AG:=AB.AG m }))) false),some (.vec BL (AB.AJ { cfg:=AB.cfg m,AN:=AB.AN m,base:=AB.base m,now:=AB.now m,cost:=AB.cost m,AJ:=AB.AJ m,state:=1,AG:=AB.AG m }) false),some (.cells [(.bool del),(.string uk),(.string uv)] 0 false)]))):=by kernel_rfl
abbrev vc_doP_0 (c0:Int) (c1:Int) (c2:Int) (c3:Int) (c4:Int) (c5:Int) (c6:Int) (lim:Int) (cost:Int) (AJ:List (Bool × ByteArray × ByteArray)):AK:=(.cells [(.int .i64 c0),(.int .i64 c1),(.int .i64 c2),(.int .i64 c3),(.int .i64 c4),(.int .i64 c5),(.int .i64 c6),(.int .i64 lim),(p_ 10),(p_ 11),(.int .i64 cost),(.slice (some ⟨12,0,(some 0)⟩) (List.length AJ) 18446744073709551616),(.pointer none),(.int .i64 0),(.bool true)] 0 false)
abbrev vc_doP_1 (c0:Int) (c1:Int) (c2:Int) (c3:Int) (c4:Int) (c5:Int) (c6:Int) (lim:Int) (bs:List (ByteArray × ByteArray)) (nw:List (ByteArray × ByteArray)) (cost:Int) (AJ:List (Bool × ByteArray × ByteArray)) (k:Int) (key:ByteArray) (val:ByteArray):AK:=(.cells [(.int .i64 (Prod.fst (CI { cfg:=[c0,c1,c2,c3,c4,c5,c6],AN:=lim,base:=bs,now:=nw,cost:=cost,AJ:=AJ,state:=0,AG:=true } k key val))),(.string (Prod.fst (Prod.snd (CI { cfg:=[c0,c1,c2,c3,c4,c5,c6],AN:=lim,base:=bs,now:=nw,cost:=cost,AJ:=AJ,state:=0,AG:=true } k key val))))] 0 false)
theorem eK (c0 c1 c2 c3 c4 c5 c6 lim:Int) (bs nw:List (ByteArray × ByteArray)) (cost:Int) (AJ:List (Bool × ByteArray × ByteArray)) (k a b:Int) (key val:ByteArray) (Q:Value->List (Option AK)->Prop):Ex XD jH AX [9,10,11,12,17,18,19,20] Q 2000 (st AX 66 [p9,E2 k a b key val,IK 13 e_] (BH ⟨.leaf,9⟩ (gS c0 c1 c2 c3 c4 c5 c6 lim bs nw cost AJ 0 true)))=(
 (Fe k a b key val)/\(bif Hh k a b key val != 0 then(Q (.int .i64 7) [some (vc_doP_0 c0 c1 c2 c3 c4 c5 c6 lim cost AJ),some (.abs (Ab.pack (Pk.table bs)) false),some (.abs (Ab.pack (Pk.table nw)) false),some (.vec BL AJ false),none,none,none,none])else(bif k==7 then(Q (.int .i64 7) [some (vc_doP_0 c0 c1 c2 c3 c4 c5 c6 lim cost AJ),some (.abs (Ab.pack (Pk.table bs)) false),some (.abs (Ab.pack (Pk.table nw)) false),some (.vec BL AJ false),none,none,none,none])else(List.length AJ=List.length (AB.AJ { cfg:=[c0,c1,c2,c3,c4,c5,c6],AN:=lim,base:=bs,now:=nw,cost:=cost,AJ:=AJ,state:=0,AG:=true })/\AF=AF)/\(A5 (AB.now { cfg:=[c0,c1,c2,c3,c4,c5,c6],AN:=lim,base:=bs,now:=nw,cost:=cost,AJ:=AJ,state:=0,AG:=true })/\List.length (AB.now { cfg:=[c0,c1,c2,c3,c4,c5,c6],AN:=lim,base:=bs,now:=nw,cost:=cost,AJ:=AJ,state:=0,AG:=true }) < 1000000)/\(bif Prod.snd (Prod.snd (CI { cfg:=[c0,c1,c2,c3,c4,c5,c6],AN:=lim,base:=bs,now:=nw,cost:=cost,AJ:=AJ,state:=0,AG:=true } k key val))then(bif Prod.fst (CI { cfg:=[c0,c1,c2,c3,c4,c5,c6],AN:=lim,base:=bs,now:=nw,cost:=cost,AJ:=AJ,state:=0,AG:=true } k key val) != 0 then(Q (.int .i64 7) [some (vc_doP_0 c0 c1 c2 c3 c4 c5 c6 lim cost AJ),some (.abs (Ab.pack (Pk.table (AB.base { cfg:=[c0,c1,c2,c3,c4,c5,c6],AN:=lim,base:=bs,now:=nw,cost:=cost,AJ:=AJ,state:=0,AG:=true }))) false),some (.abs (Ab.pack (Pk.table (AB.now { cfg:=[c0,c1,c2,c3,c4,c5,c6],AN:=lim,base:=bs,now:=nw,cost:=cost,AJ:=AJ,state:=0,AG:=true }))) false),some (.vec BL AJ false),some (.cells [(.bool (k==3)),(.string key),(.string val)] 0 false),some (vc_doP_1 c0 c1 c2 c3 c4 c5 c6 lim bs nw cost AJ k key val),none,none])else(bif k==2 then(Q (.int .i64 7) [some (vc_doP_0 c0 c1 c2 c3 c4 c5 c6 lim cost AJ),some (.abs (Ab.pack (Pk.table (AB.base { cfg:=[c0,c1,c2,c3,c4,c5,c6],AN:=lim,base:=bs,now:=nw,cost:=cost,AJ:=AJ,state:=0,AG:=true }))) false),some (.abs (Ab.pack (Pk.table (AB.now { cfg:=[c0,c1,c2,c3,c4,c5,c6],AN:=lim,base:=bs,now:=nw,cost:=cost,AJ:=AJ,state:=0,AG:=true }))) false),some (.vec BL AJ false),some (.cells [(.bool (k==3)),(.string key),(.string val)] 0 false),some (vc_doP_1 c0 c1 c2 c3 c4 c5 c6 lim bs nw cost AJ k key val),none,none])else(Q (.int .i64 0) [some (.cells [(.int .i64 c0),(.int .i64 c1),(.int .i64 c2),(.int .i64 c3),(.int .i64 c4),(.int .i64 c5),(.int .i64 c6),(.int .i64 lim),(p_ 10),(p_ 11),(.int .i64 cost),(.slice (some ⟨12,0,(some 0)⟩) (List.length AJ) 18446744073709551616),(p_ 17),(.int .i64 1),(.bool false)] 0 false),some (.abs (Ab.pack (Pk.table (AB.base { cfg:=[c0,c1,c2,c3,c4,c5,c6],AN:=lim,base:=bs,now:=nw,cost:=cost,AJ:=AJ,state:=0,AG:=true }))) false),some (.abs (Ab.pack (Pk.table (AB.now { cfg:=[c0,c1,c2,c3,c4,c5,c6],AN:=lim,base:=bs,now:=nw,cost:=cost,AJ:=AJ,state:=0,AG:=true }))) false),some (.vec BL AJ false),some (.cells [(.bool (k==3)),(.string key),(.string val)] 0 false),some (vc_doP_1 c0 c1 c2 c3 c4 c5 c6 lim bs nw cost AJ k key val),none,none])))else(bif Prod.fst (CI { cfg:=[c0,c1,c2,c3,c4,c5,c6],AN:=lim,base:=bs,now:=nw,cost:=cost,AJ:=AJ,state:=0,AG:=true } k key val) != 0 then
 (Q (.int .i64 7) [some (vc_doP_0 c0 c1 c2 c3 c4 c5 c6 lim cost AJ),some (.abs (Ab.pack (Pk.table (AB.base { cfg:=[c0,c1,c2,c3,c4,c5,c6],AN:=lim,base:=bs,now:=nw,cost:=cost,AJ:=AJ,state:=0,AG:=true }))) false),some (.abs (Ab.pack (Pk.table (AB.now { cfg:=[c0,c1,c2,c3,c4,c5,c6],AN:=lim,base:=bs,now:=nw,cost:=cost,AJ:=AJ,state:=0,AG:=true }))) false),some (.vec BL AJ false),some (vc_doP_1 c0 c1 c2 c3 c4 c5 c6 lim bs nw cost AJ k key val),none,none,none])else(bif k==2 then(Q (.int .i64 7) [some (vc_doP_0 c0 c1 c2 c3 c4 c5 c6 lim cost AJ),some (.abs (Ab.pack (Pk.table (AB.base { cfg:=[c0,c1,c2,c3,c4,c5,c6],AN:=lim,base:=bs,now:=nw,cost:=cost,AJ:=AJ,state:=0,AG:=true }))) false),some (.abs (Ab.pack (Pk.table (AB.now { cfg:=[c0,c1,c2,c3,c4,c5,c6],AN:=lim,base:=bs,now:=nw,cost:=cost,AJ:=AJ,state:=0,AG:=true }))) false),some (.vec BL AJ false),some (vc_doP_1 c0 c1 c2 c3 c4 c5 c6 lim bs nw cost AJ k key val),none,none,none])else(Q (.int .i64 0) [some (.cells [(.int .i64 c0),(.int .i64 c1),(.int .i64 c2),(.int .i64 c3),(.int .i64 c4),(.int .i64 c5),(.int .i64 c6),(.int .i64 lim),(p_ 10),(p_ 11),(.int .i64 cost),(.slice (some ⟨12,0,(some 0)⟩) (List.length AJ) 18446744073709551616),(.pointer none),(.int .i64 1),(.bool false)] 0 false),some (.abs (Ab.pack (Pk.table (AB.base { cfg:=[c0,c1,c2,c3,c4,c5,c6],AN:=lim,base:=bs,now:=nw,cost:=cost,AJ:=AJ,state:=0,AG:=true }))) false),some (.abs (Ab.pack (Pk.table (AB.now { cfg:=[c0,c1,c2,c3,c4,c5,c6],AN:=lim,base:=bs,now:=nw,cost:=cost,AJ:=AJ,state:=0,AG:=true }))) false),some (.vec BL AJ false),some (vc_doP_1 c0 c1 c2 c3 c4 c5 c6 lim bs nw cost AJ k key val),none,none,none]))))))):=by kernel_rfl
def VU (m:AB) (del:Bool) (uk uv:ByteArray) (l1 l2:List (EK.C kS)):AA:=BH ⟨.leaf,9⟩ [.cells (DV m 10 11 (.slice (some ⟨12,0,some 0⟩) m.AJ.length AF) 13) 0 false,Bi m.base,Bi m.now,.vec BL m.AJ false,II del uk uv,.vec kS l1 true,.vec kS l2 true]
def gP (m:AB) (del:Bool) (uk uv:ByteArray) (s:Pk) (ks vs:List (EK.C kS)) (i:Int):A8:=
 ⟨⟨AY,Gr [(0,.func (.yield 19) ⟨[]⟩ ⟨[]⟩),(1,DW 16),(3,DW 17),(14,.slice (some ⟨12,0,some 0⟩) m.AJ.length AF),(15,.int .i64 m.AJ.length),(16,.int .i64 i)],49,[.code (BI Tryz.prog AY [1,0,1,0,0]),.inLoop (BI Tryz.prog AY [1,0,1,0,0]),.inBlock 0,.code (BI Tryz.prog AY [1,1])],[],false,.normal,none⟩,
  [⟨AD,Wk 20 22 21 23,68,[.inRangeFunc 19,.inBlock 1,.code (BI Tryz.prog AD [1,1,1])],[⟨.collected 18,⟨[]⟩⟩],false,.normal,none⟩],
  EC (VU (mW m m.cost) del uk uv ks vs) [.cells [DW 9] 0 false,.abs (.pack s) false,.deferred (some []),
   .loop ⟨.ready,none,AD,Wk 20 22 21 23,68,#[29],BI Tryz.prog AD [1,1,0,1,0,0],BI Tryz.prog AD [1,1,0,1,0,1],18⟩,
   .cells [DW 9] 0 false,.cells [CT 15 vs.length] 0 false,.cells [CT 14 ks.length] 0 false,.cells [.int .i64 0] 0 false]⟩
def kc:Nat->List CN
 | 1=>[IG (BI Tryz.prog AY [1,1,1,0,1]) 2]
 | n=>kQ n
def UW (td:Nat) (m:AB) (del:Bool) (uk uv:ByteArray) (l:List (EK.C AR)) (s:Pk) (ks vs:List (EK.C kS)) (c i j:Int):A8:=
 ⟨⟨Ao,Gr [(2,.func (.yield 18) ⟨[]⟩ ⟨[]⟩),(11,.slice (some ⟨16,0,some 0⟩) l.length AF),(12,.int .i64 l.length),(13,.int .i64 i)],25,[.code (BI Tryz.prog Ao [1,0,0]),.inLoop (BI Tryz.prog Ao [1,0,0]),.inBlock 0],[],false,.normal,none⟩,
  [⟨BA,Gr [],6,[IG (BI Tryz.prog BA []) 2],[],false,.normal,none⟩,
   ⟨AD,Wk 19 21 20 22,68,[.inRangeFunc 18,.inBlock 3,.code (BI Tryz.prog AD [1,1,0,1,0,1,0,1,1,1,1]),.inBlock 2],[],false,.normal,some 17⟩,
   ⟨AY,Gr [(0,.func (.yield 17) ⟨[]⟩ ⟨[]⟩),(1,DW 24),(3,DW 23),(14,.slice (some ⟨12,0,some 0⟩) m.AJ.length AF),(15,.int .i64 m.AJ.length),(16,.int .i64 j)],49,kc td,[],false,.normal,none⟩,
   ⟨AD,Wk 19 21 20 22,68,[.inRangeFunc 17,.inBlock 1,.code (BI Tryz.prog AD [1,1,1])],[⟨.collected 25,⟨[]⟩⟩],false,.normal,none⟩],
  BH ⟨.leaf,9⟩ [.cells (DV (mW m c) 10 26 (.slice (some ⟨12,0,some 0⟩) m.AJ.length AF) 13) 0 false,Bi m.base,Bi m.now,.vec BL m.AJ false,II del uk uv,.vec kS ks true,.vec kS vs true,.vec AR l false,
   .loop ⟨.busy,none,AD,Wk 19 21 20 22,68,#[29],BI Tryz.prog AD [1,1,0,1,0,0],BI Tryz.prog AD [1,1,0,1,0,1],25⟩,
   .loop ⟨.ready,none,AD,Wk 19 21 20 22,68,#[48,49],BI Tryz.prog AD [1,1,0,1,0,1,0,1,1,1,0,1,0,0],BI Tryz.prog AD [1,1,0,1,0,1,0,1,1,1,0,1,0,1],25⟩,
   .cells [DW 9] 0 false,.cells [CT 15 vs.length] 0 false,.cells [CT 14 ks.length] 0 false,.cells [.int .i64 0] 0 false,.abs (.pack s) false,.cells [DW 9] 0 false,.deferred (some []),CS 16 l.length]⟩
def Zl:Stop:=⟨AY,1,3,16,[9,10,11,12,13,14,15],[0,1,3,14,15,16]⟩
def OP:Stop:=⟨Ao,4,2,16,[9,10,11,12,13,14,15],[2,11,12,13]⟩
theorem fc (m:AB) (del:Bool) (uk uv:ByteArray) (ks vs:List (EK.C kS)) (Q:Value->List (Option AK)->Prop) (R R2:A8->Prop):Xl XO Zj AD [9] Zl OP P0 Q R R2 1000 (st AD 68 [p9,CT 14 ks.length,CT 15 vs.length] (VU (mW m m.cost) del uk uv ks vs))=(
 (bif Int.ofNat (List.length ks) != Int.ofNat (List.length vs)then(Q (.int .i64 7) [some (.cells [(.int .i64 (List.getD (AB.cfg (mW m (AB.cost m))) 0 0)),(.int .i64 (List.getD (AB.cfg (mW m (AB.cost m))) 1 0)),(.int .i64 (List.getD (AB.cfg (mW m (AB.cost m))) 2 0)),(.int .i64 (List.getD (AB.cfg (mW m (AB.cost m))) 3 0)),(.int .i64 (List.getD (AB.cfg (mW m (AB.cost m))) 4 0)),(.int .i64 (List.getD (AB.cfg (mW m (AB.cost m))) 5 0)),(.int .i64 (List.getD (AB.cfg (mW m (AB.cost m))) 6 0)),(.int .i64 (AB.AN (mW m (AB.cost m)))),(p_ 10),(p_ 11),(.int .i64 (AB.cost (mW m (AB.cost m)))),(.slice (some ⟨12,0,(some 0)⟩) (List.length (AB.AJ (mW m (AB.cost m)))) 18446744073709551616),(p_ 13),(.int .i64 (AB.state (mW m (AB.cost m)))),(.bool (AB.AG (mW m (AB.cost m))))] 0 false)])else(List.length (AB.base (mW m (AB.cost m))) < 1000000)/\(R (gP m del uk uv (Pk.table (AB.base (mW m (AB.cost m)))) ks vs 0)))):=by kernel_rfl
theorem dY (m:AB) (del:Bool) (uk uv:ByteArray) (t:List (EK.C AR)) (ks vs:List (EK.C kS)) (i:Int) (Q:Value->List (Option AK)->Prop) (R R2:A8->Prop):Xl XO Zj AD [9,10,11,12,13] Zl OP P0 Q R R2 1000 (gP m del uk uv (.table t) ks vs i)=(
 (bif decide (i < ((List.length (AB.AJ m)):Int))then(bif decide (0<=i)&&Nat.blt (Int.toNat i) (List.length (AB.AJ m))then(bif Nat.blt (0+Int.toNat i) (List.length (AB.AJ (mW m (AB.cost m))))then((List.length ks=List.length ks/\AF=AF)/\(List.length vs=List.length vs/\AF=AF)/\List.length ks=List.length vs/\List.length t < 1000000)/\(bif DB t ks vs then(List.length t < 1000000)/\(p_ 9=p_ 9)/\(bif decide (0<=Int.ofNat (List.length t))&&Nat.ble (Int.toNat (Int.ofNat (List.length t))) (List.length t)&&decide (0<=0)&&Nat.ble 0 (Int.toNat (Int.ofNat (List.length t)))then(R2 (UW 8 m del uk uv t (Pk.table t) ks vs 0 0 i))else False)else(A5 t/\List.length t < 1000000)/\(R (gP m del uk uv (Pk.table (JN t (Prod.fst (List.getD (AB.AJ (mW m (AB.cost m))) (0+Int.toNat i) (EK.AZ BL))) (Prod.fst (Prod.snd (List.getD (AB.AJ (mW m (AB.cost m))) (0+Int.toNat i) (EK.AZ BL)))) (Prod.snd (Prod.snd (List.getD (AB.AJ (mW m (AB.cost m))) (0+Int.toNat i) (EK.AZ BL)))))) ks vs (IntKind.wrap .i64 (i+1)))))else False)else False)else((List.length ks=List.length ks/\AF=AF)/\(List.length vs=List.length vs/\AF=AF)/\List.length ks=List.length vs/\List.length t < 1000000)/\(bif DB t ks vs then(List.length t < 1000000)/\(p_ 9=p_ 9)/\(bif decide (0<=Int.ofNat (List.length t))&&Nat.ble (Int.toNat (Int.ofNat (List.length t))) (List.length t)&&decide (0<=0)&&Nat.ble 0 (Int.toNat (Int.ofNat (List.length t)))then(R2 (UW 2 m del uk uv t (Pk.table t) ks vs 0 0 i))else False)else(A5 t/\List.length t < 1000000)/\((List.length ks=List.length ks/\AF=AF)/\(List.length vs=List.length vs/\AF=AF)/\List.length ks=List.length vs/\List.length (JN t del uk uv) < 1000000)/\(bif DB (JN t del uk uv) ks vs then(List.length (JN t del uk uv) < 1000000)/\(p_ 9=p_ 9)/\(bif decide (0<=Int.ofNat (List.length (JN t del uk uv)))&&Nat.ble (Int.toNat (Int.ofNat (List.length (JN t del uk uv)))) (List.length (JN t del uk uv))&&decide (0<=0)&&Nat.ble 0 (Int.toNat (Int.ofNat (List.length (JN t del uk uv))))then(R2 (UW 1 m del uk uv (JN t del uk uv) (Pk.table (JN t del uk uv)) ks vs 0 0 i))else False)else(Q (.int .i64 7) [some (.cells [(.int .i64 (List.getD (AB.cfg (mW m (AB.cost m))) 0 0)),(.int .i64 (List.getD (AB.cfg (mW m (AB.cost m))) 1 0)),(.int .i64 (List.getD (AB.cfg (mW m (AB.cost m))) 2 0)),(.int .i64 (List.getD (AB.cfg (mW m (AB.cost m))) 3 0)),(.int .i64 (List.getD (AB.cfg (mW m (AB.cost m))) 4 0)),(.int .i64 (List.getD (AB.cfg (mW m (AB.cost m))) 5 0)),(.int .i64 (List.getD (AB.cfg (mW m (AB.cost m))) 6 0)),(.int .i64 (AB.AN (mW m (AB.cost m)))),(p_ 10),(p_ 11),(.int .i64 (AB.cost (mW m (AB.cost m)))),(.slice (some ⟨12,0,(some 0)⟩) (List.length (AB.AJ (mW m (AB.cost m)))) 18446744073709551616),(p_ 13),(.int .i64 (AB.state (mW m (AB.cost m)))),(.bool (AB.AG (mW m (AB.cost m))))] 0 false),some (.abs (Ab.pack (Pk.table (AB.base (mW m (AB.cost m))))) false),some (.abs (Ab.pack (Pk.table (AB.now (mW m (AB.cost m))))) false),some (.vec BL (AB.AJ (mW m (AB.cost m))) false),some (.cells [(.bool del),(.string uk),(.string uv)] 0 false)]))))):=by kernel_rfl
theorem Ye (m:AB) (del:Bool) (uk uv:ByteArray) (l t:List (EK.C AR)) (ks vs:List (EK.C kS)) (c i j:Int) (Q:Value->List (Option AK)->Prop) (R R2:A8->Prop):Xl XO Zj AD [9,16,26,13,27] Zl OP P0 Q R R2 1000 (UW 8 m del uk uv l (.table t) ks vs c i j)=(
 (bif decide (i < ((List.length l):Int))then(bif decide (0<=i)&&Nat.blt (Int.toNat i) (List.length l)then(bif Nat.blt (0+Int.toNat i) (List.length l)then(((.int .i64 (AB.cost (mW m c))):Value)=(.int .i64 (AB.cost (mW m c))))/\(((.pointer (some ⟨9,10,none⟩)):Value)=(.pointer (some ⟨9,10,none⟩)))/\(p_ 9=p_ 9)/\(p_ 9=p_ 9)/\(R2 (UW 8 m del uk uv l (Pk.table t) ks vs (IntKind.wrap .i64 (AB.cost (mW m c)+IntKind.wrap .i64 (IntKind.wrap .i64 (16+Int.ofNat (ByteArray.size (Prod.fst (List.getD l (0+Int.toNat i) (EK.AZ AR)))))+Int.ofNat (ByteArray.size (Prod.snd (List.getD l (0+Int.toNat i) (EK.AZ AR))))))) (IntKind.wrap .i64 (i+1)) j))else False)else False)else((List.length l=List.length l/\AF=AF)/\List.length l < 1000000)/\(p_ 9=p_ 9)/\(Q (.int .i64 0) [some (.cells [(.int .i64 (List.getD (AB.cfg (mW m c)) 0 0)),(.int .i64 (List.getD (AB.cfg (mW m c)) 1 0)),(.int .i64 (List.getD (AB.cfg (mW m c)) 2 0)),(.int .i64 (List.getD (AB.cfg (mW m c)) 3 0)),(.int .i64 (List.getD (AB.cfg (mW m c)) 4 0)),(.int .i64 (List.getD (AB.cfg (mW m c)) 5 0)),(.int .i64 (List.getD (AB.cfg (mW m c)) 6 0)),(.int .i64 (AB.AN (mW m c))),(p_ 27),(p_ 26),(.int .i64 (AB.cost (mW m c))),(.slice none 0 0),(.pointer none),(.int .i64 0),(.bool (AB.AG (mW m c)))] 0 false),some (.vec ([SK.str,SK.str]) l false),some (.cells [(.bool true),(.slice (some ⟨16,0,(some 0)⟩) (List.length l) 18446744073709551616)] 0 false),some (.cells [(.bool del),(.string uk),(.string uv)] 0 false),some (.abs (Ab.pack (Pk.table l)) false)]))):=by kernel_rfl
theorem Yd (m:AB) (del:Bool) (uk uv:ByteArray) (l t:List (EK.C AR)) (ks vs:List (EK.C kS)) (c i j:Int) (Q:Value->List (Option AK)->Prop) (R R2:A8->Prop):Xl XO Zj AD [9,16,26,13,27] Zl OP P0 Q R R2 1000 (UW 2 m del uk uv l (.table t) ks vs c i j)=(
 (bif decide (i < ((List.length l):Int))then(bif decide (0<=i)&&Nat.blt (Int.toNat i) (List.length l)then(bif Nat.blt (0+Int.toNat i) (List.length l)then(((.int .i64 (AB.cost (mW m c))):Value)=(.int .i64 (AB.cost (mW m c))))/\(((.pointer (some ⟨9,10,none⟩)):Value)=(.pointer (some ⟨9,10,none⟩)))/\(p_ 9=p_ 9)/\(p_ 9=p_ 9)/\(R2 (UW 2 m del uk uv l (Pk.table t) ks vs (IntKind.wrap .i64 (AB.cost (mW m c)+IntKind.wrap .i64 (IntKind.wrap .i64 (16+Int.ofNat (ByteArray.size (Prod.fst (List.getD l (0+Int.toNat i) (EK.AZ AR)))))+Int.ofNat (ByteArray.size (Prod.snd (List.getD l (0+Int.toNat i) (EK.AZ AR))))))) (IntKind.wrap .i64 (i+1)) j))else False)else False)else((List.length l=List.length l/\AF=AF)/\List.length l < 1000000)/\(p_ 9=p_ 9)/\(Q (.int .i64 0) [some (.cells [(.int .i64 (List.getD (AB.cfg (mW m c)) 0 0)),(.int .i64 (List.getD (AB.cfg (mW m c)) 1 0)),(.int .i64 (List.getD (AB.cfg (mW m c)) 2 0)),(.int .i64 (List.getD (AB.cfg (mW m c)) 3 0)),(.int .i64 (List.getD (AB.cfg (mW m c)) 4 0)),(.int .i64 (List.getD (AB.cfg (mW m c)) 5 0)),(.int .i64 (List.getD (AB.cfg (mW m c)) 6 0)),(.int .i64 (AB.AN (mW m c))),(p_ 27),(p_ 26),(.int .i64 (AB.cost (mW m c))),(.slice none 0 0),(.pointer none),(.int .i64 0),(.bool (AB.AG (mW m c)))] 0 false),some (.vec ([SK.str,SK.str]) l false),some (.cells [(.bool true),(.slice (some ⟨16,0,(some 0)⟩) (List.length l) 18446744073709551616)] 0 false),some (.cells [(.bool del),(.string uk),(.string uv)] 0 false),some (.abs (Ab.pack (Pk.table l)) false)]))):=by kernel_rfl
theorem Yv (m:AB) (del:Bool) (uk uv:ByteArray) (l t:List (EK.C AR)) (ks vs:List (EK.C kS)) (c i j:Int) (Q:Value->List (Option AK)->Prop) (R R2:A8->Prop):Xl XO Zj AD [9,16,26,13,27] Zl OP P0 Q R R2 1000 (UW 1 m del uk uv l (.table t) ks vs c i j)=(
 (bif decide (i < ((List.length l):Int))then(bif decide (0<=i)&&Nat.blt (Int.toNat i) (List.length l)then(bif Nat.blt (0+Int.toNat i) (List.length l)then(((.int .i64 (AB.cost (mW m c))):Value)=(.int .i64 (AB.cost (mW m c))))/\(((.pointer (some ⟨9,10,none⟩)):Value)=(.pointer (some ⟨9,10,none⟩)))/\(p_ 9=p_ 9)/\(p_ 9=p_ 9)/\(R2 (UW 1 m del uk uv l (Pk.table t) ks vs (IntKind.wrap .i64 (AB.cost (mW m c)+IntKind.wrap .i64 (IntKind.wrap .i64 (16+Int.ofNat (ByteArray.size (Prod.fst (List.getD l (0+Int.toNat i) (EK.AZ AR)))))+Int.ofNat (ByteArray.size (Prod.snd (List.getD l (0+Int.toNat i) (EK.AZ AR))))))) (IntKind.wrap .i64 (i+1)) j))else False)else False)else((List.length l=List.length l/\AF=AF)/\List.length l < 1000000)/\(p_ 9=p_ 9)/\(Q (.int .i64 0) [some (.cells [(.int .i64 (List.getD (AB.cfg (mW m c)) 0 0)),(.int .i64 (List.getD (AB.cfg (mW m c)) 1 0)),(.int .i64 (List.getD (AB.cfg (mW m c)) 2 0)),(.int .i64 (List.getD (AB.cfg (mW m c)) 3 0)),(.int .i64 (List.getD (AB.cfg (mW m c)) 4 0)),(.int .i64 (List.getD (AB.cfg (mW m c)) 5 0)),(.int .i64 (List.getD (AB.cfg (mW m c)) 6 0)),(.int .i64 (AB.AN (mW m c))),(p_ 27),(p_ 26),(.int .i64 (AB.cost (mW m c))),(.slice none 0 0),(.pointer none),(.int .i64 0),(.bool (AB.AG (mW m c)))] 0 false),some (.vec ([SK.str,SK.str]) l false),some (.cells [(.bool true),(.slice (some ⟨16,0,(some 0)⟩) (List.length l) 18446744073709551616)] 0 false),some (.cells [(.bool del),(.string uk),(.string uv)] 0 false),some (.abs (Ab.pack (Pk.table l)) false)]))):=by kernel_rfl
theorem VP:∀(us:List (EK.C BL)) (b:List (EK.C AR)),(BT b us).length=us.length+1
 | [],_=>rfl
 | u::us,b=>by
  rw[BT,List.length_cons,VP us,List.length_cons]
theorem NB (u:EK.C BL):∀(us:List (EK.C BL)) (b:List (EK.C AR)),∃l,(BT b us)[us.length]? = some l/\BT b (us++[u])=BT b us++[JN l u.1 u.2.1 u.2.2]
 | [],b=>⟨b,rfl,rfl⟩
 | x::us,b=>by
  obtain⟨l,h1,h2⟩:=NB u us (JN b x.1 x.2.1 x.2.2);refine⟨l,?_,?_⟩
  ·rw[BT,List.length_cons,List.getElem?_cons_succ];exact h1
  ·rw[List.cons_append,BT,BT,h2];rfl
structure E1 (cfg:List Int) (m:AB) (L:List (List (EK.C AR))) (i:Nat):Prop where
 ne:L≠[]
 inv:Fl cfg m (L.length - 1) (A3 L) i
 pre:BT m.base m.AJ=L
 sm:∀l∈L,A5 l/\l.length<=i/\∀x∈l,x.1.size<=16/\x.2.size<=16
section
variable {cfg:List Int} {m:AB} {L:List (List (EK.C AR))} {i:Nat}
theorem E1.JT (h:E1 cfg m L i):Je L:=fun l hl=>by
 obtain⟨h1,h2,h3⟩:=h.sm l hl;exact⟨h1,Ou h3 (by have:=h.inv.le;omega)⟩
theorem K3 (h:L≠[]):L[L.length - 1]? = some (A3 L):=by
 have:=List.length_pos_iff.2 h;unfold A3;rw[List.getElem?_eq_getElem (by omega)];rfl
theorem JR (h:L≠[]):A3 L∈L:=List.mem_of_getElem? (K3 h)
theorem SV (x:List (EK.C AR)):A3 (L++[x])=x:=by
 unfold A3;rw[List.length_append,List.length_singleton,Nat.add_sub_cancel,List.getElem?_append_right (Nat.le_refl _),Nat.sub_self];rfl
theorem E1.act (h:E1 cfg m L i) {kind key val:Int} (hi:i < 1000):E1 cfg (dI cfg m (A3 L) kind key val) (Gg cfg L kind key val) (i+1):=by
 obtain⟨_,hk,hs,hv⟩:=Dt kind key val;have hn:=Zq h.inv hk hs hv hi;obtain⟨hne2,hlen⟩:=Qr (cfg:=cfg) (kind:=kind) (key:=key) (val:=val) h.ne;have hpos:=List.length_pos_iff.2 h.ne;unfold dI;have hlast:A3 (Gg cfg L kind key val)=NX cfg (A3 L) (aK kind) (aS kind key) (aV kind val):=by
  unfold Gg JU NX;cases h4:aK kind==4
  ·cases (Cc cfg (A3 L) (aK kind) (aS kind key) (aV kind val)).2.2
   ·rfl
   ·exact SV _
  ·have e4:aK kind=4:=by simpa using h4
   rw[e4];rfl
 have hnum:(Gg cfg L kind key val).length - 1=Sf cfg (L.length - 1) (A3 L) (aK kind) (aS kind key) (aV kind val):=by
  rw[hlen,Nat.add_sub_cancel];rfl
 refine⟨hne2,by rw[hlast,hnum];exact hn,?_,?_⟩
 ·unfold Gg JU Na;have hnow:=h.inv.now;cases h4:aK kind==4
  ·have hf:∀x:AB,JW (aK kind) x=x:=fun x=>by
    have h8:(aK kind==8)=false:=by rcases hk with e | e | e | e<;>rw[e]<;>rfl
    unfold JW;rw[h4,h8];rfl
   rw[hf];cases hu:(Cc cfg (A3 L) (aK kind) (aS kind key) (aV kind val)).2.2
   ·exact h.pre
   ·obtain⟨l,q1,q2⟩:=NB ((aK kind==3),aS kind key,aV kind val) m.AJ m.base;show BT m.base (m.AJ++[((aK kind==3),aS kind key,aV kind val)])=_;rw[q2,h.pre];have hl:l=A3 L:=by
     rw[h.pre,h.inv.AJ,K3 h.ne]at q1;cases q1;rfl
    subst hl;show L++[JN (A3 L) (aK kind==3) (aS kind key) (aV kind val)]=L++[Ar (A3 L) (aK kind) (aS kind key) (aV kind val)]
    congr 2
    rcases hk with e | e | e | e
    ·rw[e];exact(JE h.inv.sorted _ _).1
    ·exfalso;rw[e]at hu;unfold Cc at hu;cases h2:(C5 (A3 L) (aS kind key)).isSome<;>rw[h2]at hu<;>cases hu
    ·rw[e];exact(JP h.inv.sorted _ _).1
    ·rw[e]at h4;cases h4
  ·have e4:aK kind=4:=by simpa using h4
   rw[e4];show BT (Sy m).base (Sy m).AJ=[A3 L];show [m.now]=_;rw[hnow]
 ·intro l hl;have hup:∀l∈L,A5 l/\l.length<=i+1/\∀x∈l,x.1.size<=16/\x.2.size<=16:=fun l hl=>by
   obtain⟨h1,h2,h3⟩:=h.sm l hl;exact⟨h1,by omega,h3⟩
  have hnew:A5 (NX cfg (A3 L) (aK kind) (aS kind key) (aV kind val))/\_/\_:=⟨hn.sorted,hn.len,hn.small⟩;unfold Gg JU at hl;cases h4:aK kind==4
  ·rw[h4]at hl;cases hu:(Cc cfg (A3 L) (aK kind) (aS kind key) (aV kind val)).2.2
   ·rw[hu]at hl;exact hup l hl
   ·rw[hu]at hl;have hl:l∈L++[Ar (A3 L) (aK kind) (aS kind key) (aV kind val)]:=hl;rcases List.mem_append.1 hl with hl | hl
    ·exact hup l hl
    ·rw[List.mem_singleton]at hl;subst hl;have e:NX cfg (A3 L) (aK kind) (aS kind key) (aV kind val)=Ar (A3 L) (aK kind) (aS kind key) (aV kind val):=by unfold NX;rw[hu];rfl
     rw[e]at hnew;exact hnew
  ·rw[h4]at hl;have hl:l∈[A3 L]:=hl;rw[List.mem_singleton]at hl;subst hl;exact hup _ (JR h.ne)
theorem iz {s:Int} (h0:0<=s) (h7:s<=7):E1 (Cg s) (m0 s) [[]] 0:=
 ⟨by simp,js h0 h7,rfl,fun l hl=>by
  rw[List.mem_singleton]at hl;subst hl;exact⟨List.Pairwise.nil,Nat.le_refl _,fun x hx=>by cases hx⟩⟩
theorem E1.jB (h:E1 cfg m L i) (hi:i<=140) {kind key val:Int} (hb:DJ kind/\DJ key/\DJ val):S5 cfg m L kind key val:=⟨⟨i,hi,h.inv⟩,h.ne,hb⟩
theorem cL {l:List (EK.C AR)} (hl:l∈L):(Cq L (Az l) (A7 l)).isSome=true:=by
 unfold Cq;rw[List.find?_isSome];refine⟨l,hl,?_⟩;unfold DB;rw[EZ,EZ];rfl
end
def At (m:AB) (st:Int) (pl:Bool):AB:={ m with state:=st,AG:=pl }
section
variable {m:AB}
theorem fm:I2 { data:=#[] }=true:=by simp[I2]
end
section
variable {m:AB} {del:Bool} {uk uv:ByteArray} {ks vs:List (EK.C kS)} {l t:List (EK.C AR)}
def im (m:AB) (del:Bool) (uk uv:ByteArray) (r:Option (List (EK.C AR))) (v:Value) (H:AA):Prop:=match r with
 | none=>v= .int .i64 7/\H.get 9=some (.cells (DV m 10 11 (.slice (some ⟨12,0,some 0⟩) m.AJ.length AF) 13) 0 false)/\H.get 10=some (Bi m.base)/\H.get 11=some (Bi m.now)/\H.get 12=some (.vec BL m.AJ false)/\H.get 13=some (II del uk uv)
 | some l=>v= .int .i64 0/\H.get 9=some (.cells (BN (mO m l) 27 26 (.slice none 0 0)) 0 false)/\H.get 16=some (.vec AR l false)/\H.get 26=some (CS 16 l.length)/\H.get 13=some (II del uk uv)/\H.get 27=some (Bi l)
abbrev dJ (m:AB) (del:Bool) (uk uv:ByteArray) (l:List (EK.C AR)) (v:Value) (os:List (Option AK)):Prop:=v= .int .i64 0/\os=[some (.cells (BN (mO m l) 27 26 (.slice none 0 0)) 0 false),some (.vec AR l false),some (CS 16 l.length),some (II del uk uv),some (Bi l)]
theorem dt {v:Value} {H:AA} (h:dJ m del uk uv l v (([9,16,26,13,27]++Af 4 v).map H.get)):im m del uk uv (some l) v H:=by
 obtain⟨rfl,h⟩:=h;have h:[H.get 9,H.get 16,H.get 26,H.get 13,H.get 27]=_:=h;simp only[List.cons.injEq,and_true]at h;exact⟨rfl,h.1,h.2.1,h.2.2.1,h.2.2.2.1,h.2.2.2.2⟩
theorem Xf (hs:Dz l) (td:Nat) (htd:td=8∨td=2∨td=1) (j:Int):∀(q i:Nat),l.length - i=q->i<=l.length->
 Ad XO 16 AD (im m del uk uv (some l)) (UW td m del uk uv l (.table t) ks vs (BG (l.take i)) i j):=by
 intro q;induction q with
 | zero=>
  intro i hm hi;have he:i=l.length:=by omega
  subst he;refine Gw G4 (ids:=[9,16,26,13,27]) (S:=Zl) (S2:=OP) (ks:=P0) (by kernel_rfl) rfl rfl (Q:=dJ m del uk uv l) (R:=fun _=>False) (R2:=fun _=>False) (fun v H h=>dt h) (fun c h=>h.elim) (fun c h=>h.elim) 1000 _ ?_;rw[List.take_length];have hno:¬((l.length:Nat):Int) < ((List.length l:Nat):Int):=Int.lt_irrefl _;rcases htd with rfl | rfl | rfl
  ·rw[Ye];exact AU (fun h=>absurd h hno) (fun _=>⟨⟨⟨rfl,rfl⟩,hs.1⟩,rfl,rfl,by unfold CS AF;rfl⟩)
  ·rw[Yd];exact AU (fun h=>absurd h hno) (fun _=>⟨⟨⟨rfl,rfl⟩,hs.1⟩,rfl,rfl,by unfold CS AF;rfl⟩)
  ·rw[Yv];exact AU (fun h=>absurd h hno) (fun _=>⟨⟨⟨rfl,rfl⟩,hs.1⟩,rfl,rfl,by unfold CS AF;rfl⟩)
 | succ q ih=>
  intro i hm hi;have hlt:i < l.length:=by omega
  refine Gw G4 (ids:=[9,16,26,13,27]) (S:=Zl) (S2:=OP) (ks:=P0) (by kernel_rfl) rfl rfl (Q:=fun _ _=>False) (R:=fun _=>False) (R2:=fun c=>c=UW td m del uk uv l (.table t) ks vs (BG (l.take (i+1))) (i+1:Nat) j) (fun v H h=>h.elim) (fun c h=>h.elim) (fun c h=>by rw[h];exact ih (i+1) (by omega) (by omega)) 1000 _ ?_;have hl2:((i:Nat):Int) < ((List.length l:Nat):Int):=by omega
  have hw:AB.cost (mW m (BG (l.take i)))=BG (l.take i):=rfl;rcases htd with rfl | rfl | rfl
  ·rw[Ye,Ci hlt,hw,HW hs hlt,Bv (by have:=hs.1;omega)];exact AU (fun _=>AH (ca hlt) (AH (cb hlt) ⟨rfl,rfl,rfl,rfl,rfl⟩)) (fun h=>absurd hl2 h)
  ·rw[Yd,Ci hlt,hw,HW hs hlt,Bv (by have:=hs.1;omega)];exact AU (fun _=>AH (ca hlt) (AH (cb hlt) ⟨rfl,rfl,rfl,rfl,rfl⟩)) (fun h=>absurd hl2 h)
  ·rw[Yv,Ci hlt,hw,HW hs hlt,Bv (by have:=hs.1;omega)];exact AU (fun _=>AH (ca hlt) (AH (cb hlt) ⟨rfl,rfl,rfl,rfl,rfl⟩)) (fun h=>absurd hl2 h)
theorem bG (hst:m.state=2) (hkv:ks.length=vs.length) (hu:m.AJ.length < 1000000):∀(us:List (EK.C BL)) (i:Nat) (t:List (EK.C AR)),m.AJ.drop i=us->i<=m.AJ.length->Je (BT t (us++[(del,uk,uv)]))->
 Ad XO 16 AD (im m del uk uv (Cq (BT t (us++[(del,uk,uv)])) ks vs)) (gP m del uk uv (.table t) ks vs i):=by
 intro us;induction us with
 | nil=>
  intro i t hd hi hg;have he:i=m.AJ.length:=by
   have:=congrArg List.length hd;rw[List.length_drop,List.length_nil]at this;omega
  subst he;have hg1:Je [t,JN t del uk uv]:=hg;obtain⟨h1,h2⟩:=hg1 t (by simp);obtain⟨_,h3⟩:=hg1 (JN t del uk uv) (by simp);have hf:Cq (BT t ([]++[(del,uk,uv)])) ks vs=List.find? (fun l=>DB l ks vs) [t,JN t del uk uv]:=rfl;rw[hf,List.find?_cons];refine Gw G4 (ids:=[9,10,11,12,13]) (S:=Zl) (S2:=OP) (ks:=P0) (by kernel_rfl) rfl rfl (Q:=fun v os=>(DB t ks vs=false/\DB (JN t del uk uv) ks vs=false)/\v= .int .i64 7/\os=[some (.cells (DV m 10 11 (.slice (some ⟨12,0,some 0⟩) m.AJ.length AF) 13) 0 false),some (Bi m.base),some (Bi m.now),some (.vec BL m.AJ false),some (II del uk uv)]) (R:=fun _=>False)
   (R2:=fun c=>(DB t ks vs=true/\∃j,c=UW 2 m del uk uv t (.table t) ks vs 0 0 j)∨(DB t ks vs=false/\DB (JN t del uk uv) ks vs=true/\∃j,c=UW 1 m del uk uv (JN t del uk uv) (.table (JN t del uk uv)) ks vs 0 0 j)) (fun v H h=>?_) (fun c h=>h.elim) (fun c h=>?_) 1000 _ ?_
  ·obtain⟨⟨e1,e2⟩,rfl,h⟩:=h;have h:[H.get 9,H.get 10,H.get 11,H.get 12,H.get 13]=_:=h;simp only[List.cons.injEq,and_true]at h;rw[e1,List.find?_cons,e2];exact⟨rfl,h.1,h.2.1,h.2.2.1,h.2.2.2.1,h.2.2.2.2⟩
  ·rcases h with⟨e,j,rfl⟩ | ⟨e1,e2,j,rfl⟩
   ·rw[e];exact Xf (m:=m) (del:=del) (uk:=uk) (uv:=uv) (t:=t) (ks:=ks) (vs:=vs) h2 2 (.inr (.inl rfl)) j t.length 0 (by omega) (by omega)
   ·rw[e1,List.find?_cons,e2];exact Xf (m:=m) (del:=del) (uk:=uk) (uv:=uv) (t:=JN t del uk uv) (ks:=ks) (vs:=vs) h3 1 (.inr (.inr rfl)) j (JN t del uk uv).length 0 (by omega) (by omega)
  ·rw[dY];refine AU (fun h=>absurd h (by show ¬((m.AJ.length:Nat):Int) < ((List.length m.AJ:Nat):Int);omega)) (fun _=>⟨⟨⟨rfl,rfl⟩,⟨rfl,rfl⟩,hkv,h2.1⟩,Ae (fun e=>⟨h2.1,rfl,AH (by simp) (.inl ⟨e,_,rfl⟩)⟩)
    (fun e=>⟨⟨h1,h2.1⟩,⟨⟨rfl,rfl⟩,⟨rfl,rfl⟩,hkv,h3.1⟩,Ae (fun e2=>⟨h3.1,rfl,AH (by simp) (.inr ⟨e,e2,_,rfl⟩)⟩) (fun e2=>⟨⟨e,e2⟩,rfl,by rw[Nw hst];unfold DV AF;rfl⟩)⟩)⟩)
 | cons u us ih=>
  intro i t hd hi hg;have hlt:i < m.AJ.length:=by
   have:=congrArg List.length hd;rw[List.length_drop,List.length_cons]at this;omega
  rw[List.drop_eq_getElem_cons hlt]at hd;simp only[List.cons.injEq]at hd;obtain⟨hd1,hd2⟩:=hd;rw[List.cons_append]at hg ⊢;obtain⟨h1,h2⟩:=hg t (by unfold BT;simp);have hg2:Je (BT (JN t u.1 u.2.1 u.2.2) (us++[(del,uk,uv)])):=fun l hl=>hg l (by unfold BT;exact List.mem_cons_of_mem _ hl)
  refine Gw G4 (ids:=[9,10,11,12,13]) (S:=Zl) (S2:=OP) (ks:=P0) (by kernel_rfl) rfl rfl (Q:=fun _ _=>False) (R:=fun c=>DB t ks vs=false/\c=gP m del uk uv (.table (JN t u.1 u.2.1 u.2.2)) ks vs (i+1:Nat))
   (R2:=fun c=>DB t ks vs=true/\∃j,c=UW 8 m del uk uv t (.table t) ks vs 0 0 j) (fun v H h=>h.elim) (fun c h=>?_) (fun c h=>?_) 1000 _ ?_
  ·obtain⟨e,rfl⟩:=h;have:Cq (BT t (u::(us++[(del,uk,uv)]))) ks vs=Cq (BT (JN t u.1 u.2.1 u.2.2) (us++[(del,uk,uv)])) ks vs:=by
    unfold Cq;rw[BT,List.find?_cons,e]
   rw[this];exact ih (i+1) _ hd2 hlt hg2
  ·obtain⟨e,j,rfl⟩:=h;have:Cq (BT t (u::(us++[(del,uk,uv)]))) ks vs=some t:=by
    unfold Cq;rw[BT,List.find?_cons,e]
   rw[this];exact Xf (m:=m) (del:=del) (uk:=uk) (uv:=uv) (t:=t) (ks:=ks) (vs:=vs) h2 8 (.inl rfl) j t.length 0 (by omega) (by omega)
  ·rw[dY];refine AU (fun _=>?_) (fun h=>absurd (show(i:Int) < ((List.length m.AJ:Nat):Int) by omega) h);refine AH (ca hlt) (AH (cb hlt) ⟨⟨⟨rfl,rfl⟩,⟨rfl,rfl⟩,hkv,h2.1⟩,Ae (fun e=>⟨h2.1,rfl,AH (by simp) ⟨e,_,rfl⟩⟩) (fun e=>⟨⟨h1,h2.1⟩,e,?_⟩)⟩);rw[show(mW m m.cost).AJ=m.AJ from rfl,Ci hlt,hd1,Bv (by omega)]
end
theorem CY.Bj {laid:List (Nat × List Value)} {N m:Nat} {mu mu2:List Bool} {x:IL} {v:Value} {H:AA} (h:CY laid N m mu x v H) (hm:∀j,j < m->Ch mu2 j=true->Ch mu j=true):CY laid N m mu2 x v H:=by
 obtain⟨ns,h1,h2,h3,h4,h5,h6⟩:=h;exact⟨ns,h1,h2,h3,h4,h5,fun j o hj hmj ho=>h6 j o hj (hm j hj hmj) ho⟩
structure Zd (m:AB) (del:Bool) (uk uv:ByteArray) (ks vs:List (EK.C kS)):Prop where
 st:m.state=2
 AJ:m.AJ.length < 1000000
 JT:Je (BT m.base (m.AJ++[(del,uk,uv)]))
 kv:ks.length=vs.length
def Xq (m:AB) (del:Bool) (uk uv:ByteArray) (ks vs:List (EK.C kS)):Option (List (EK.C AR)):=Cq (BT m.base (m.AJ++[(del,uk,uv)])) ks vs
def kV (m:AB) (del:Bool) (uk uv:ByteArray) (r:Option (List (EK.C AR))) (v:Value) (H:AA):Prop:=match r with
 | none=>im m del uk uv none v H
 | some l=>v= .int .i64 0/\H.get 9=some (.abs (.pack (.model (mO m l))) false)/\H.get 13=some (II del uk uv)
theorem fE {m:AB} {del:Bool} {uk uv:ByteArray} {ks vs:List (EK.C kS)} (hok:Zd m del uk uv ks vs):Aq XO 16 (fun b=>9<=b/\b < 16) AD (kV m del uk uv (Xq m del uk uv ks vs)) (st AD 68 [p9,CT 14 ks.length,CT 15 vs.length] (VU m del uk uv ks vs)):=by
 obtain⟨hst,hu,hg,hkv⟩:=hok;have hE:Ad XO 16 AD (im m del uk uv (Xq m del uk uv ks vs)) (st AD 68 [p9,CT 14 ks.length,CT 15 vs.length] (VU (mW m m.cost) del uk uv ks vs)):=by
  refine Gw G4 (ids:=[9]) (S:=Zl) (S2:=OP) (ks:=P0) (by kernel_rfl) rfl rfl (Q:=fun _ _=>False) (R:=fun c=>c=gP m del uk uv (.table m.base) ks vs 0) (R2:=fun _=>False) (fun v H h=>h.elim) (fun c h=>?_) (fun c h=>h.elim) 1000 _ ?_
  ·rw[h];exact bG hst hkv hu m.AJ 0 m.base rfl (Nat.zero_le _) hg
  ·rw[fc];have hb:m.base.length < 1000000:=by
    have:=(hg m.base (by cases m.AJ<;>(rw[BT.eq_def];simp))).2;exact this.1
   refine EY (by rw[hkv];simp) ⟨hb,rfl⟩
 rw[Nw hst]at hE;generalize Xq m del uk uv ks vs=r at hE;cases r with
 | none=>exact hE.IC
 | some l=>
  refine Aq.shut (Aq.tell (Aq.shut (Q':=fun v H=>v= .int .i64 0/\H.get 9=some (.cells (BN (mO m l) 27 26 (.slice none 0 0)) 0 false)/\H.get 26=some (Bi l)/\H.get 27=some (Bi l)/\H.get 13=some (II del uk uv)) hE.IC fun v H h=>?_)
   (Q':=fun v H=>v= .int .i64 0/\(∃z,16<=z/\Oq 9 27 26 z H (mO m l))/\H.get 13=some (II del uk uv)) ?_) ?_
  ·obtain⟨rfl,g9,g16,g26,g15,g27⟩:=h;have s2:=B6 (s:= .table l) (bs:=[26,16]) (H:=H) (by simp);have hR:∀y,y=26∨y=16->y∈Am H 0 200 [9] []:=by
    intro y hy;rw[As g9 rfl];show y∈Am H 0 199 [27,26] [9];rw[As g27 rfl];show y∈Am H 0 198 [26] [9,27];rw[As g26 rfl];show y∈Am H 0 197 [16] [9,27,26];rw[As g16 rfl];exact Bf H 0 _ _ _ y (by rcases hy with rfl | rfl<;>simp)
   refine⟨DE (.table l) [26,16] H,OA (s:= .table l) (b:=26) (n:=16) (rs:=[9]) (.table l) (fun b hb=>by rw[List.mem_singleton]at hb;subst hb;exact .inr ⟨by decide,by decide⟩) (hR 26 (.inl rfl)) (hR 16 (.inr rfl)) (by decide) g26 rfl rfl rfl g16 rfl rfl rfl (.refl _),rfl,?_,s2.root 26 rfl,?_,?_⟩
   ·rw[s2.C2 9 (by simp)];exact g9
   ·rw[s2.C2 27 (by simp)];exact g27
   ·rw[s2.C2 13 (by simp)];exact g15
  ·rintro v H ⟨rfl,g9,g26,g27,g15⟩;obtain⟨v2,H2,k1,rfl,⟨z,z1,z2,z3,z4⟩,k3⟩:=NV (D:=fun b=>9<=b/\b < 16) (v:= .int .i64 0) (m:=mO m l) (r:=9) (b:=27) (n:=26) (fun _=>EV) rfl (by decide) (by decide) (by decide) (by decide) (by decide) (by decide) g9 g27 g26 ⟨9,by decide,by decide⟩;exact⟨_,H2,k1,rfl,⟨z,by omega,z2,z3,by rw[k3 27 (by decide) (by decide)];exact g27,by rw[k3 26 (by decide) (by decide)];exact g26,z4⟩,by rw[k3 13 (by decide) (by decide)];exact g15⟩
  ·rintro v H ⟨rfl,⟨z,hz,hM⟩,g15⟩;obtain⟨H2,j1,j2,j3⟩:=QL (D:=fun b=>9<=b/\b < 16) (v:= .int .i64 0) (.inr ⟨by decide,by decide⟩) hM;exact⟨H2,j1,rfl,j2,by rw[j3 13 (by simp;omega)];exact g15⟩
def Yw (args:List Value) (objs:List AK):GT:=
 match args,objs with
 | [.pointer (some ⟨9,0,none⟩),.slice (some ⟨14,0,some 0⟩) n1 k1,.slice (some ⟨15,0,some 0⟩) n2 k2],
  [.cells [.int .i64 c0,.int .i64 c1,.int .i64 c2,.int .i64 c3,.int .i64 c4,.int .i64 c5,.int .i64 c6,.int .i64 lim,.pointer (some ⟨10,0,none⟩),.pointer (some ⟨11,0,none⟩),.int .i64 cost,.slice (some ⟨12,0,some 0⟩) n3 k3,.pointer (some ⟨13,0,none⟩),.int .i64 sta,.bool pl] 0 _,
   .abs (.pack (.table bs)) _,.abs (.pack (.table nw)) _,.vec [.bool,.str,.str] AJ _,.cells [.bool del,.string uk,.string uv] 0 _,.vec [.str] ks _,.vec [.str] vs _]=>
  .ask ((n1=ks.length/\k1=AF)/\(n2=vs.length/\k2=AF)/\(n3=AJ.length/\k3=AF)/\Zd ⟨[c0,c1,c2,c3,c4,c5,c6],lim,bs,nw,cost,AJ,sta,pl⟩ del uk uv ks vs)
   (.test (Xq ⟨[c0,c1,c2,c3,c4,c5,c6],lim,bs,nw,cost,AJ,sta,pl⟩ del uk uv ks vs).isSome
    (.ret ⟨.int .i64 0,[some (.abs (.pack (.model (mO ⟨[c0,c1,c2,c3,c4,c5,c6],lim,bs,nw,cost,AJ,sta,pl⟩ ((Xq ⟨[c0,c1,c2,c3,c4,c5,c6],lim,bs,nw,cost,AJ,sta,pl⟩ del uk uv ks vs).getD [])))) false),none,none,none,some (II del uk uv)],[]⟩)
    (.ret ⟨.int .i64 7,[some (.cells (DV ⟨[c0,c1,c2,c3,c4,c5,c6],lim,bs,nw,cost,AJ,sta,pl⟩ 10 11 (.slice (some ⟨12,0,some 0⟩) AJ.length AF) 13) 0 false),some (Bi bs),some (Bi nw),some (.vec BL AJ false),some (II del uk uv)],[]⟩))
 | _,_=> .fail
abbrev Dk:List Bool:=[true,true,true,true,true]
theorem cz:C3 Tryz.prog AL AD (Al AL 9 Dk Yw):=by
 refine BY gi (by kernel_rfl) (n:=68) (by kernel_rfl) (by kernel_rfl) fun argsc objs x hx hro=>?_
 unfold Yw at hx;split at hx
 ·rename_i n1 k1 n2 k2 c0 c1 c2 c3 c4 c5 c6 lim cost n3 k3 sta pl r0 bs r3 nw r4 AJ r5 del uk uv r6 ks r1 vs r2;simp only[GT.run]at hx;split at hx
  ·rename_i hok;obtain⟨⟨rfl,rfl⟩,⟨rfl,rfl⟩,⟨rfl,rfl⟩,hok⟩:=hok;have e0:r0=false:=hro 0 _ rfl rfl;have e3:r3=false:=hro 1 _ rfl rfl;have e4:r4=false:=hro 2 _ rfl rfl;have e5:r5=false:=hro 3 _ rfl rfl;have e6:r6=false:=hro 4 _ rfl rfl;subst e0 e3 e4 e5 e6;refine⟨by simp,?_⟩;generalize hm:(⟨[c0,c1,c2,c3,c4,c5,c6],lim,bs,nw,cost,AJ,sta,pl⟩:AB)=m at *;have hs:Aq XO 16 (fun b=>9<=b/\b < 16) AD (kV m del uk uv (Xq m del uk uv ks vs)) (st AD 68 [p9,CT 14 ks.length,CT 15 vs.length] (VU m del uk uv ks vs)):=fE hok;rw[<-hm]at hs;refine Aq.mono (c:=st AD 68 [p9,CT 14 ks.length,CT 15 vs.length] (VU ⟨[c0,c1,c2,c3,c4,c5,c6],lim,bs,nw,cost,AJ,sta,pl⟩ del uk uv ks vs)) hs ?_;rw[hm];intro v H h;generalize Xq m del uk uv ks vs=r at h hx;cases r with
   | none=>
    cases hx
    obtain⟨rfl,g9,g12,g13,g14,g15⟩:=h;rw[<-hm]at g9 g12 g13 g14;refine⟨[],List.nodup_nil,(fun c hc=>by cases hc),rfl,rfl,(fun j c p hj hp=>by cases hj),fun j o hj hmj ho=>?_⟩
    match j,ho with
    | 0,ho=>cases ho;exact⟨_,rfl,by rw[<-hm];exact g9⟩
    | 1,ho=>cases ho;exact⟨_,rfl,g12⟩
    | 2,ho=>cases ho;exact⟨_,rfl,g13⟩
    | 3,ho=>cases ho;exact⟨_,rfl,g14⟩
    | 4,ho=>cases ho;exact⟨_,rfl,g15⟩
    | j+5,ho=>cases ho
   | some l=>
    cases hx
    obtain⟨rfl,g9,g15⟩:=h;refine⟨[],List.nodup_nil,(fun c hc=>by cases hc),rfl,rfl,(fun j c p hj hp=>by cases hj),fun j o hj hmj ho=>?_⟩
    match j,ho with
    | 0,ho=>cases ho;exact⟨_,rfl,g9⟩
    | 1,ho=>cases ho
    | 2,ho=>cases ho
    | 3,ho=>cases ho
    | 4,ho=>cases ho;exact⟨_,rfl,g15⟩
    | j+5,ho=>cases ho
  ·cases hx
 ·cases hx
def aC (args:List Value) (H:AA):Bool:=match args with
 | .pointer (some ⟨b,0,none⟩)::_=>match H.get b with
  | some (.abs _ _)=>true
  | _=>false
 | _=>false
def jO (F1 F2:Cn):Cn:=fun args H=>bif aC args H then F1 args H else F2 args H
def Zp (p1 p2:EB):EB:=fun args H K=>bif aC args H then p1 args H K else p2 args H K
def KI (m:AB) (b n x u:Nat):AK:= .cells (DV m b n (.slice (some ⟨x,0,some 0⟩) m.AJ.length AF) u) 0 false
abbrev ba (m:AB) (del:Bool) (uk uv:ByteArray) (o:Option AK) (r:AK):List (Option AK):=[some (KI m 10 11 12 13),some (Bi m.base),some (Bi m.now),some (.vec BL m.AJ false),some (II del uk uv),some (Bi m.base),some (Bi m.now),o,some r]
inductive gX (m:AB) (del:Bool) (uk uv:ByteArray):Value->List (Option AK)->Prop where
 | row:gX m del uk uv (DW 14) (ba m del uk uv (some (.vec BL m.AJ false)) (KI m 15 16 18 13))
 | zero (x:Value) (o:Option AK) (hx:∀ν:Ai,Iv ν x) (hu:m.AJ=[]):gX m del uk uv (DW 14) (ba m del uk uv o (.cells (DV m 15 16 x 13) 0 false))
theorem aT {m:AB} {del:Bool} {uk uv:ByteArray} (h1:m.base.length < 1000000) (h2:m.now.length < 1000000) (h3:m.AJ.length < 1000000):
 Aq XM 14 (fun b=>9<=b/\b < 14) Aj (fun v H=>v=DW 14/\[H.get 9,H.get 10,H.get 11,H.get 12,H.get 13,H.get 15,H.get 16]=[some (KI m 10 11 12 13),some (Bi m.base),some (Bi m.now),some (.vec BL m.AJ false),some (II del uk uv),some (Bi m.base),some (Bi m.now)]/\∃z,17<=z/\H.get 14=some (KI m 15 16 z 13)/\H.get z=some (.vec BL m.AJ false))
  (st Aj 28 [p9] (BH ⟨.leaf,9⟩ (di m del uk uv))):=by
 have hE:Ad XM 14 Aj (fun v H=>gX m del uk uv v (([9,10,11,12,13,15,16,18]++Af 4 v).map H.get)) (st Aj 28 [p9] (BH ⟨.leaf,9⟩ (di m del uk uv))):=by
  refine BW.Fk (XN G0 (ids:=[9,10,11,12,13,15,16,18]) (Q:=gX m del uk uv) 1000 _ ?_);rw[bj];have hb:BK 40 (0+m.AJ.length)=true:=by
   unfold BK;rw[Nat.ble_eq_true_of_le (by omega),Nat.ble_eq_true_of_le (by omega)];rfl
  have hle:Nat.ble (0+m.AJ.length) m.AJ.length=true:=Nat.ble_eq_true_of_le (by omega);have h0:Nat.blt 0 m.AJ.length=false->m.AJ=[]:=fun h=>by
   cases hq:m.AJ with
   | nil=>rfl
   | cons a l=>rw[hq]at h;cases h
  have h00:Nat.beq m.AJ.length 0=true->m.AJ=[]:=fun h=>List.eq_nil_of_length_eq_zero (Nat.eq_of_beq_eq_true h)
  have hrow:gX m del uk uv (DW 14) (ba m del uk uv (some (.vec BL ([]++List.take (List.length (AB.AJ m)) (List.drop 0 (AB.AJ m))) false)) (.cells (DV m 15 16 (.slice (some ⟨18,0,some 0⟩) (0+m.AJ.length) 18446744073709551616) 13) 0 false)):=by
   rw[List.drop_zero,List.take_length,Nat.zero_add,EH];exact .row
  unfold ba KI at hrow;rw[<-EH]at hrow;have hz:∀(x:Value) (o:Option AK),(∀ν:Ai,Iv ν x)->m.AJ=[]->gX m del uk uv (DW 14) [some (.cells (DV m 10 11 (.slice (some ⟨12,0,some 0⟩) m.AJ.length 18446744073709551616) 13) 0 false),some (Bi m.base),some (Bi m.now),some (.vec BL m.AJ false),some (II del uk uv),some (Bi m.base),some (Bi m.now),o,some (.cells (DV m 15 16 x 13) 0 false)]:=fun x o hx hu=>by
   rw[EH];exact .zero x o hx hu
  repeat' first
   | exact hrow
   | exact hz _ _ (fun _=>Lq) (h00 (by assumption))
   | exact hz _ _ (fun _=>EV) (h0 (by assumption))
   | refine And.intro (by first | exact rfl | exact h1 | exact h2) ?_
   | refine AH hle ?_
   | refine AH hb ?_
   | refine Ae (fun _=>?_) (fun _=>?_)
   | refine And.intro ?_ ?_
 refine hE.IC.tell ?_;intro v H h;generalize hos:([9,10,11,12,13,15,16,18]++Af 4 v).map H.get=os at h;cases h with
 | row=>
  have h:[H.get 9,H.get 10,H.get 11,H.get 12,H.get 13,H.get 15,H.get 16,H.get 18,H.get 14]=_:=hos;simp only[List.cons.injEq,and_true]at h;obtain⟨g9,IB,g11,g12,g13,g15,g16,g18,g14⟩:=h;exact⟨_,H,fun base W0 μ W v' _ hv hH=>⟨μ,Ai.le_refl _,hH,hv⟩,rfl,by rw[g9,IB,g11,g12,g13,g15,g16],18,by decide,g14,g18⟩
 | zero x o hx hu=>
  have h:[H.get 9,H.get 10,H.get 11,H.get 12,H.get 13,H.get 15,H.get 16,H.get 18,H.get 14]=_:=hos;simp only[List.cons.injEq,and_true]at h;obtain⟨g9,IB,g11,g12,g13,g15,g16,_,g14⟩:=h;have hge:=H.Dx;have C2:∀y,y < 100->y≠14->((H.CR BL).put 14 (KI m 15 16 H.Br 13)).get y=H.get y:=fun y hy h14=>by rw[AA.AQ,if_neg h14,AA.CA,if_neg (by omega)]
  refine⟨_,(H.CR BL).put 14 (KI m 15 16 H.Br 13),fun base W0 μ W v' hT hv hH=>?_,rfl,?_,H.Br,by omega,?_,?_⟩
  ·obtain⟨μ2,k1,k2⟩:=hH.Kh (k:=BL) (pre:=(DV m 15 16 x 13).take 11) (post:=(DV m 15 16 x 13).drop 12) (hT 9 ⟨by decide,by decide⟩) hx g14 (by decide);refine⟨μ2,k1,?_,hv.mono k1⟩;unfold KI;rw[hu];exact k2
  ·rw[C2 9 (by decide) (by decide),C2 10 (by decide) (by decide),C2 11 (by decide) (by decide),C2 12 (by decide) (by decide),C2 13 (by decide) (by decide),C2 15 (by decide) (by decide),C2 16 (by decide) (by decide),g9,IB,g11,g12,g13,g15,g16]
  ·rw[AA.AQ,if_pos rfl]
  ·rw[AA.AQ,if_neg (by omega),AA.CA,if_pos rfl,hu]
theorem RA {ρ:Ren} {H:AA}:∀(bs:List Nat) (os:List AK),Pz ρ H bs=some os->os.length=bs.length
 | [],os,h=>by cases h;rfl
 | b::bs,os,h=>by
  unfold Pz at h;split at h
  ·split at h
   ·rename_i o1 l h1 h2;cases h
    rw[List.length_cons,List.length_cons,RA bs _ h2]
   ·cases h
  ·cases h
theorem Oa {mu mu2:List Bool} {H:AA}:∀(bs:List Nat) (j:Nat),(∀i,i < bs.length->Ch mu (j+i)=Ch mu2 (j+i))->FD mu H j bs=FD mu2 H j bs
 | [],_,_=>rfl
 | b::bs,j,h=>by
  have h0:=h 0 (by simp);rw[Nat.add_zero]at h0;have ih:=Oa (H:=H) bs (j+1) fun i hi=>(Nat.add_right_comm j i 1) ▸ h (i+1) (Nat.succ_lt_succ hi)
  unfold FD;rw[h0,ih]
theorem Ru {ρ:Ren} {mu mu2:List Bool}:∀(bs:List Nat) (j:Nat) (H:AA) (os:List (Option AK)),(∀i,i < bs.length->Ch mu (j+i)=Ch mu2 (j+i))->Fu ρ mu H j bs os=Fu ρ mu2 H j bs os
 | [],_,_,_,_=>by unfold Fu;rfl
 | b::bs,j,H,os,h=>by
  have h0:=h 0 (by simp);rw[Nat.add_zero]at h0;have ih:=fun H os=>Ru (ρ:=ρ) bs (j+1) H os fun i hi=>(Nat.add_right_comm j i 1) ▸ h (i+1) (Nat.succ_lt_succ hi)
  unfold Fu;rw[h0];cases Ch mu2 j
  ·exact ih _ _
  ·cases os with
   | nil=>exact ih _ _
   | cons o os=>
    cases o with
    | none=>exact ih _ _
    | some o=>
     show(match BV ρ o with | some o1=>bif o1.ro then none else Fu ρ mu (H.put b o1) (j+1) bs os | none=>none)=(match BV ρ o with | some o1=>bif o1.ro then none else Fu ρ mu2 (H.put b o1) (j+1) bs os | none=>none);cases BV ρ o with
     | none=>rfl
     | some o1=>
      show(bif o1.ro then none else Fu ρ mu (H.put b o1) (j+1) bs os)=(bif o1.ro then none else Fu ρ mu2 (H.put b o1) (j+1) bs os);rw[ih]
theorem NL {laid:List (Nat × List Value)} {N:Nat} {mu mu1 mu2:List Bool} {G G1 G2:List Value->List AK->GT} (hG:∀a o x,(G a o).run=some x->((G1 a o).run=some x/\∀j,j < o.length->Ch mu j=Ch mu1 j)∨((G2 a o).run=some x/\∀j,j < o.length->Ch mu j=Ch mu2 j))
 (args:List Value) (H:AA) (r:Value × AA) (h:Al laid N mu G args H=some r):Al laid N mu1 G1 args H=some r∨Al laid N mu2 G2 args H=some r:=by
 unfold Al at h ⊢;generalize Am H N 200 (args.flatMap (Af 4)) []=bs at h ⊢;generalize DI (FC (OG laid N bs)) args=A at h ⊢;generalize hB:Pz (OG laid N bs) H bs=B at h ⊢;cases A with
 | none=>cases h
 | some a=>cases B with
  | none=>cases h
  | some o=>
   have hl:=RA bs o hB;simp only at h ⊢;cases hm:FD mu H 0 bs
   ·simp only[hm,cond_false]at h;cases h
   ·simp only[hm,cond_true]at h;split at h
    ·rename_i x hx;have key:∀m2,(∀j,j < o.length->Ch mu j=Ch m2 j)->FD m2 H 0 bs=true/\Kz laid N m2 bs H x=some r:=fun m2 hj=>by
      have hj2:∀i,i < bs.length->Ch mu (0+i)=Ch m2 (0+i):=fun i hi=>by rw[Nat.zero_add];exact hj i (by omega)
      refine⟨by rw[<-Oa bs 0 hj2];exact hm,?_⟩;unfold Kz at h ⊢;rw[<-Ru bs 0 H x.Lu hj2];exact h
     rcases hG a o x hx with⟨h1,h2⟩ | ⟨h1,h2⟩
     ·obtain⟨k1,k2⟩:=key mu1 h2;left;rw[k1,h1];exact k2
     ·obtain⟨k1,k2⟩:=key mu2 h2;right;rw[k1,h1];exact k2
    ·cases h
theorem C3.or {P:Program} {laid:List (Nat × List Value)} {f:FuncId} {F F1 F2:Cn} (h1:C3 P laid f F1) (h2:C3 P laid f F2) (hs:∀args H r,F args H=some r->F1 args H=some r∨F2 args H=some r):C3 P laid f F:=
 ⟨h1.1,fun base W0 μ H W args args' v H' hW hH hl ha hF=>(hs _ _ _ hF).elim (fun h=>h1.2 base W0 μ H W args args' v H' hW hH hl ha h) (fun h=>h2.2 base W0 μ H W args args' v H' hW hH hl ha h)⟩
theorem fi {m:AB} {del:Bool} {uk uv:ByteArray} (h1:m.base.length < 1000000) (h2:m.now.length < 1000000) (h3:m.AJ.length < 1000000):
 Aq XM 14 (fun b=>9<=b/\b < 14) Aj (fun v H=>CY AL 9 5 Dk ⟨.pointer (some ⟨14,0,none⟩),[some (KI m 10 11 12 13),some (Bi m.base),some (Bi m.now),some (.vec BL m.AJ false),some (II del uk uv)],[KI m 15 16 17 13,Bi m.base,Bi m.now,.vec BL m.AJ false]⟩ v H) (st Aj 28 [p9] (BH ⟨.leaf,9⟩ (di m del uk uv))):=by
 refine Aq.mono (aT h1 h2 h3) ?_;rintro v H ⟨rfl,h,z,hz,g14,gz⟩;simp only[List.cons.injEq,and_true]at h;obtain⟨g9,IB,g11,g12,g13,g15,g16⟩:=h;refine⟨[14,15,16,z],by simp;omega,fun c hc=>by simp at hc;show 14<=c;omega,rfl,rfl,fun j c p hj hp=>?_,fun j o hj hmj ho=>?_⟩
 ·match j,hj,hp with
  | 0,hj,hp=>cases hj;cases hp;exact⟨_,rfl,g14⟩
  | 1,hj,hp=>cases hj;cases hp;exact⟨_,rfl,g15⟩
  | 2,hj,hp=>cases hj;cases hp;exact⟨_,rfl,g16⟩
  | 3,hj,hp=>cases hj;cases hp;exact⟨_,rfl,gz⟩
  | j+4,hj,hp=>cases hj
 ·match j,ho with
  | 0,ho=>cases ho;exact⟨_,rfl,g9⟩
  | 1,ho=>cases ho;exact⟨_,rfl,IB⟩
  | 2,ho=>cases ho;exact⟨_,rfl,g11⟩
  | 3,ho=>cases ho;exact⟨_,rfl,g12⟩
  | 4,ho=>cases ho;exact⟨_,rfl,g13⟩
  | j+5,ho=>cases ho
def gI (objs:List AK):Option (AB × Nat × Nat × Bool × ByteArray × ByteArray):=match objs with
 | [.cells [.int .i64 c0,.int .i64 c1,.int .i64 c2,.int .i64 c3,.int .i64 c4,.int .i64 c5,.int .i64 c6,.int .i64 lim,.pointer (some ⟨10,0,none⟩),.pointer (some ⟨11,0,none⟩),.int .i64 cost,.slice (some ⟨12,0,some 0⟩) n3 k3,.pointer (some ⟨13,0,none⟩),.int .i64 sta,.bool pl] 0 _,
  .abs (.pack (.table bs)) _,.abs (.pack (.table nw)) _,.vec [.bool,.str,.str] AJ _,.cells [.bool del,.string uk,.string uv] 0 _]=>some (⟨[c0,c1,c2,c3,c4,c5,c6],lim,bs,nw,cost,AJ,sta,pl⟩,n3,k3,del,uk,uv)
 | _=>none
theorem iR {objs:List AK} {m:AB} {n k:Nat} {del:Bool} {uk uv:ByteArray} (h:gI objs=some (m,n,k,del,uk,uv)):m.cfg.length=7/\∃r0 r1 r2 r3 r4,objs=[.cells (DV m 10 11 (.slice (some ⟨12,0,some 0⟩) n k) 13) 0 r0,.abs (.pack (.table m.base)) r1,.abs (.pack (.table m.now)) r2,.vec BL m.AJ r3,.cells [.bool del,.string uk,.string uv] 0 r4]:=by
 unfold gI at h;split at h
 ·cases h;exact⟨rfl,_,_,_,_,_,rfl⟩
 ·cases h
def KZ (g:AB->Bool->ByteArray->ByteArray->List Value->GT) (args:List Value) (objs:List AK):GT:=
 match args with
 | .pointer (some ⟨9,0,none⟩)::rest=>match gI objs with
  | some (m,n,k,del,uk,uv)=> .ask (n=m.AJ.length/\k=AF) (g m del uk uv rest)
  | none=> .fail
 | _=> .fail
theorem QN {fs:List (FuncId × Cn)} (hfs:A4 Tryz.prog AL fs) {f:FuncId} {n:Nat} (he:entry Tryz.prog f=some (n,BI Tryz.prog f [])) {g:AB->Bool->ByteArray->ByteArray->List Value->GT}
 (hrun:∀m del uk uv rest x,m.cfg.length=7->(g m del uk uv rest).run=some x->rest.length+1<=n/\Aq (Cx Tryz.prog AL fs) 14 (fun b=>9<=b/\b < 14) f (fun v H=>CY AL 9 5 Dk x v H) (st f n (p9::rest) (BH ⟨.leaf,9⟩ (di m del uk uv)))):C3 Tryz.prog AL f (Al AL 9 Dk (KZ g)):=by
 refine BY hfs (by kernel_rfl) he (by kernel_rfl) fun argsc objs x hx hro=>?_
 unfold KZ at hx;split at hx
 ·rename_i rest;split at hx
  ·rename_i m n3 k3 del uk uv hg;obtain⟨hcfg,r0,r1,r2,r3,r4,rfl⟩:=iR hg;simp only[GT.run]at hx;split at hx
   ·rename_i hok;obtain⟨rfl,rfl⟩:=hok;have e0:r0=false:=hro 0 _ rfl rfl;have e1:r1=false:=hro 1 _ rfl rfl;have e2:r2=false:=hro 2 _ rfl rfl;have e3:r3=false:=hro 3 _ rfl rfl;have e4:r4=false:=hro 4 _ rfl rfl;subst e0 e1 e2 e3 e4;obtain⟨g1,g2⟩:=hrun m del uk uv rest x hcfg hx;exact⟨by simpa using g1,g2⟩
   ·cases hx
  ·cases hx
 ·cases hx
def SR (G1 G2:List Value->List AK->GT) (args:List Value) (objs:List AK):GT:=match objs with
 | [.abs (.pack (.model m)) ro]=>G1 args [.abs (.pack (.model m)) ro]
 | os=>G2 args os
theorem Ps {f:FuncId} {G1 G2:List Value->List AK->GT} (h1:C3 Tryz.prog AL f (Al AL 9 [true] G1)) (h2:C3 Tryz.prog AL f (Al AL 9 Dk G2)):C3 Tryz.prog AL f (Al AL 9 Dk (SR G1 G2)):=by
 refine C3.or h1 h2 (NL fun a o x hx=>?_);unfold SR at hx;split at hx
 ·refine .inl ⟨hx,fun j hj=>?_⟩;have hj:j < 1:=hj;have:j=0:=by omega
  subst this;rfl
 ·exact .inr ⟨hx,fun j _=>rfl⟩
def Wq (m:AB) (del:Bool) (uk uv:ByteArray) (rest:List Value):GT:=match rest with
 | []=> .ask (m.base.length < 1000000/\m.now.length < 1000000/\m.AJ.length < 1000000) (.ret ⟨.pointer (some ⟨14,0,none⟩),[some (KI m 10 11 12 13),some (Bi m.base),some (Bi m.now),some (.vec BL m.AJ false),some (II del uk uv)],[KI m 15 16 17 13,Bi m.base,Bi m.now,.vec BL m.AJ false]⟩)
 | _=> .fail
theorem cZ:C3 Tryz.prog AL Aj (Al AL 9 Dk (SR Ia (KZ Wq))):=by
 refine Ps O4 (QN allM (by kernel_rfl) (n:=28) fun m del uk uv rest x _ hx=>?_);unfold Wq at hx;split at hx
 ·simp only[GT.run]at hx;split at hx
  ·rename_i hok;cases hx
   exact⟨by simp,fi hok.1 hok.2.1 hok.2.2⟩
  ·cases hx
 ·cases hx
theorem P6 {m:AB} {del:Bool} {uk uv:ByteArray} {w v:Value} {H:AA} (hw:Ct 6 w=true) (hv:v=w) (h:[H.get 9,H.get 10,H.get 11,H.get 12,H.get 13]=[some (KI m 10 11 12 13),some (Bi m.base),some (Bi m.now),some (.vec BL m.AJ false),some (II del uk uv)]):
 CY AL 9 5 Dk ⟨w,[some (KI m 10 11 12 13),some (Bi m.base),some (Bi m.now),some (.vec BL m.AJ false),some (II del uk uv)],[]⟩ v H:=by
 subst hv;simp only[List.cons.injEq,and_true]at h;obtain⟨g9,IB,g11,g12,g13⟩:=h;refine⟨[],List.nodup_nil,(fun c hc=>by cases hc),rfl,IZ 6 v hw,(fun j c p hj hp=>by cases hj),fun j o hj hmj ho=>?_⟩
 match j,ho with
 | 0,ho=>cases ho;exact⟨_,rfl,g9⟩
 | 1,ho=>cases ho;exact⟨_,rfl,IB⟩
 | 2,ho=>cases ho;exact⟨_,rfl,g11⟩
 | 3,ho=>cases ho;exact⟨_,rfl,g12⟩
 | 4,ho=>cases ho;exact⟨_,rfl,g13⟩
 | j+5,ho=>cases ho
def Yt (m:AB) (del:Bool) (uk uv:ByteArray) (rest:List Value):GT:=match rest with
 | []=> .ret ⟨.bool (m.state==2),[some (KI m 10 11 12 13),some (Bi m.base),some (Bi m.now),some (.vec BL m.AJ false),some (II del uk uv)],[]⟩
 | _=> .fail
theorem cH:C3 Tryz.prog AL BO (Al AL 9 Dk (SR Mw.G (KZ Yt))):=by
 refine Ps VS (QN allM (by kernel_rfl) (n:=12) fun m del uk uv rest x _ hx=>?_);unfold Yt at hx;split at hx
 ·cases hx
  refine⟨by simp,Aq.mono (Ad.IC (BW.Fk (Bt G0 (ids:=[9,10,11,12,13]) (Q:=fun v os=>v= .bool (m.state==2)/\os=[some (KI m 10 11 12 13),some (Bi m.base),some (Bi m.now),some (.vec BL m.AJ false),some (II del uk uv)]) 100 _ ?_))) ?_⟩
  ·rw[Vw];refine Ae (fun h=>⟨by rw[h],by unfold KI AF;rfl⟩) (fun h=>⟨by rw[h],by unfold KI AF;rfl⟩)
  ·rintro v H ⟨rfl,h⟩;exact P6 rfl rfl h
 ·cases hx
structure kb (m:AB) (k a b:Int) (key val:ByteArray) (e:Int) (sv:ByteArray):Prop where
 st:m.state=1
 k:k=5∨k=8
 a:a=0
 b:b=0
 key:key={ data:=#[] }
 val:val={ data:=#[] }
 e:e=0
 sv:sv={ data:=#[] }
def YK (m:AB) (del:Bool) (uk uv:ByteArray) (rest:List Value):GT:=match rest with
 | [.agg ⟨[.int .i64 k,.int .i64 a,.int .i64 b,.string key,.string val]⟩,.agg ⟨[.int .i64 e,.string sv]⟩]=> .ask (kb m k a b key val e sv)
  (.ret ⟨.int .i64 (bif k==8 then 0 else 7),[some (KI (bif k==8 then { m with state:=2 } else m) 10 11 12 13),some (Bi m.base),some (Bi m.now),some (.vec BL m.AJ false),some (II del uk uv)],[]⟩)
 | _=> .fail
theorem bx:C3 Tryz.prog AL AX (Al AL 9 Dk (KZ YK)):=by
 refine QN dm (by kernel_rfl) (n:=66) fun m del uk uv rest x _ hx=>?_
 unfold YK at hx;split at hx
 ·rename_i k a b key val e sv;simp only[GT.run]at hx;split at hx
  ·rename_i hok;obtain⟨hst,hk,rfl,rfl,rfl,rfl,rfl,rfl⟩:=hok;cases hx
   obtain⟨cfg,lim,bs,nw,cost,AJ,st0,pl⟩:=m;simp only at hst;subst hst;rcases hk with rfl | rfl
   ·refine⟨by simp,Aq.mono (Ad.IC (BW.Fk (Bt Pb (ids:=[9,10,11,12,13]) (Q:=fun v os=>v= .int .i64 7/\os=[some (KI ⟨cfg,lim,bs,nw,cost,AJ,1,pl⟩ 10 11 12 13),some (Bi bs),some (Bi nw),some (.vec BL AJ false),some (II del uk uv)]) 2000 _ ?_))) ?_⟩
    ·refine(cm ⟨cfg,lim,bs,nw,cost,AJ,1,pl⟩ del uk uv _).mpr ?_;exact⟨EL.step.ok,EY (by rw[show Hh 5 0 0 { data:=#[] } { data:=#[] }=0 from Em .step];rfl) ⟨rfl,by unfold KI AF;rfl⟩⟩
    ·rintro v H ⟨rfl,h⟩;exact P6 (m:=⟨cfg,lim,bs,nw,cost,AJ,1,pl⟩) rfl rfl h
   ·refine⟨by simp,Aq.mono (Ad.IC (BW.Fk (Bt Pb (ids:=[9,10,11,12,13]) (Q:=fun v os=>v= .int .i64 0/\os=[some (KI ⟨cfg,lim,bs,nw,cost,AJ,2,pl⟩ 10 11 12 13),some (Bi bs),some (Bi nw),some (.vec BL AJ false),some (II del uk uv)]) 2000 _ ?_))) ?_⟩
    ·refine(aF ⟨cfg,lim,bs,nw,cost,AJ,1,pl⟩ del uk uv _).mpr ?_;exact⟨EL.Pn.ok,EY (by rw[show Hh 8 0 0 { data:=#[] } { data:=#[] }=0 from Em .Pn];rfl) ⟨rfl,by unfold KI AF;rfl⟩⟩
    ·rintro v H ⟨rfl,h⟩;exact P6 (m:=⟨cfg,lim,bs,nw,cost,AJ,2,pl⟩) rfl rfl h
  ·cases hx
 ·cases hx
def P4 (m:AB) (k:Int) (key val:ByteArray):Bool:= !((CI m k key val).1 != 0)&& !(k==2)
def Wh (m:AB) (k:Int) (key val:ByteArray):Bool:=P4 m k key val&&(CI m k key val).2.2
structure gw (m:AB) (k a b:Int) (key val:ByteArray) (e:Int) (sv:ByteArray):Prop where
 cfg:m.cfg.length=7
 st:m.state=0
 pl:m.AG=true
 Ni:Fe k a b key val
 c0:Hh k a b key val=0
 h7:k≠7
 kp:A5 m.now
 n:m.now.length < 900000
 e:e=13
 sv:sv={ data:=#[] }
def cu (args:List Value) (objs:List AK):GT:=
 match args,objs with
 | [.pointer (some ⟨9,0,none⟩),.agg ⟨[.int .i64 k,.int .i64 a,.int .i64 b,.string key,.string val]⟩,.agg ⟨[.int .i64 e,.string sv]⟩],[.abs (.pack (.model m)) _]=>
  .ask (gw m k a b key val e sv) (.test (Wh m k key val)
   (.ret ⟨.int .i64 0,[some (KI (At m 1 false) 10 11 12 13)],[Bi m.base,Bi m.now,.vec BL m.AJ false,II (k==3) key val]⟩)
   (.ret ⟨.int .i64 (bif P4 m k key val then 0 else 7),[some (.abs (.pack (.model (bif P4 m k key val then At m 1 false else m))) false)],[]⟩))
 | _,_=> .fail
def iC (m:AB) (k:Int) (key val:ByteArray) (v:Value) (os:List (Option AK)):Prop:=
 (Wh m k key val=true/\v= .int .i64 0/\∃a b c,os=[some (KI (At m 1 false) 10 11 12 17),some (Bi m.base),some (Bi m.now),some (.vec BL m.AJ false),some (II (k==3) key val),a,b,c])∨
  (Wh m k key val=false/\v= .int .i64 (bif P4 m k key val then 0 else 7)/\∃a b c d,os=QA (bif P4 m k key val then At m 1 false else m)++[a,b,c,d])
theorem gJ (c0 c1 c2 c3 c4 c5 c6 lim:Int) (bs nw:List (ByteArray × ByteArray)) (cost:Int) (AJ:List (Bool × ByteArray × ByteArray)) (k a b:Int) (key val:ByteArray)
 (hck:Fe k a b key val) (h0:Hh k a b key val=0) (h7:k≠7) (hs:A5 nw) (hn:nw.length < 900000):
 Ex XD jH AX [9,10,11,12,17,18,19,20] (iC (mY c0 c1 c2 c3 c4 c5 c6 lim bs nw cost AJ 0 true) k key val) 2000 (st AX 66 [p9,E2 k a b key val,IK 13 { data:=#[] }] (BH ⟨.leaf,9⟩ (gS c0 c1 c2 c3 c4 c5 c6 lim bs nw cost AJ 0 true))):=by
 rw[eK];have hc:(Hh k a b key val != 0)=false:=by rw[h0];rfl
 have h7b:(k==7)=false:=by simpa using h7
 refine⟨hck,EY hc (EY h7b ⟨⟨rfl,rfl⟩,⟨hs,by show nw.length < 1000000;omega⟩,?_⟩)⟩;have hno:∀os,P4 (mY c0 c1 c2 c3 c4 c5 c6 lim bs nw cost AJ 0 true) k key val=false->(∃a b c d,os=QA (mY c0 c1 c2 c3 c4 c5 c6 lim bs nw cost AJ 0 true)++[a,b,c,d])->iC (mY c0 c1 c2 c3 c4 c5 c6 lim bs nw cost AJ 0 true) k key val (.int .i64 7) os:=fun os hb h=>by
  refine .inr ⟨by unfold Wh;rw[hb];rfl,by rw[hb];rfl,?_⟩;rw[hb];exact h
 refine Ae (fun hu=>Ae (fun he=>?_) (fun he=>Ae (fun h2=>?_) (fun h2=>?_))) (fun hu=>Ae (fun he=>?_) (fun he=>Ae (fun h2=>?_) (fun h2=>?_)))
 ·exact hno _ (by unfold P4;rw[show((CI (mY c0 c1 c2 c3 c4 c5 c6 lim bs nw cost AJ 0 true) k key val).1 != 0)=true from he];rfl) ⟨_,_,_,_,rfl⟩
 ·exact hno _ (by unfold P4;rw[h2];simp) ⟨_,_,_,_,rfl⟩
 ·refine .inl ⟨?_,rfl,_,_,_,by unfold KI AF;rfl⟩;unfold Wh P4;rw[show((CI (mY c0 c1 c2 c3 c4 c5 c6 lim bs nw cost AJ 0 true) k key val).1 != 0)=false from he,h2];exact hu
 ·exact hno _ (by unfold P4;rw[show((CI (mY c0 c1 c2 c3 c4 c5 c6 lim bs nw cost AJ 0 true) k key val).1 != 0)=true from he];rfl) ⟨_,_,_,_,rfl⟩
 ·exact hno _ (by unfold P4;rw[h2];simp) ⟨_,_,_,_,rfl⟩
 ·have hb:P4 (mY c0 c1 c2 c3 c4 c5 c6 lim bs nw cost AJ 0 true) k key val=true:=by
   unfold P4;rw[show((CI (mY c0 c1 c2 c3 c4 c5 c6 lim bs nw cost AJ 0 true) k key val).1 != 0)=false from he,h2];rfl
  refine .inr ⟨by unfold Wh;rw[hb];exact hu,by rw[hb];rfl,?_⟩;rw[hb];exact⟨_,_,_,_,rfl⟩
theorem cC:C3 Tryz.prog AL AX (Al AL 9 [true] cu):=by
 refine BY iy (by kernel_rfl) (n:=66) (by kernel_rfl) (by kernel_rfl) fun argsc objs x hx hro=>?_
 unfold cu at hx;split at hx
 ·rename_i k a b key val e sv m ro;simp only[GT.run]at hx;split at hx
  ·rename_i hok;obtain⟨hcfg,hst,hpl,hck,h0,h7,hs,hn,rfl,rfl⟩:=hok;have hr0:ro=false:=hro 0 _ rfl rfl;subst hr0;obtain⟨cfg,lim,bs,nw,cost,AJ,st0,pl⟩:=m;simp only at hcfg hst hpl hs hn;subst hst hpl;obtain⟨c0,c1,c2,c3,c4,c5,c6,rfl⟩:=GV hcfg;refine⟨by simp,?_⟩;have hE:=BW.Fk (N:=10) (Bt Wz (ids:=[9,10,11,12,17,18,19,20]) 2000 _ (gJ c0 c1 c2 c3 c4 c5 c6 lim bs nw cost AJ k a b key val hck h0 h7 hs hn));show Aq XD 10 (fun b=>9<=b/\b < 10) AX _ (st AX 66 [p9,E2 k a b key val,IK 13 { data:=#[] }] (MC (mY c0 c1 c2 c3 c4 c5 c6 lim bs nw cost AJ 0 true)));refine Aq.shut (Pq (m:=mY c0 c1 c2 c3 c4 c5 c6 lim bs nw cost AJ 0 true) (rest:=[E2 k a b key val,IK 13 { data:=#[] }]) ⟨Nat.le_refl 9,Nat.lt_succ_self 9⟩ hE.IC) ?_;rintro v H (⟨hu,rfl,a',b',c',h⟩ | ⟨hu,rfl,a',b',c',d',h⟩)
   ·have h:[H.get 9,H.get 10,H.get 11,H.get 12,H.get 17,H.get 18,H.get 19,H.get 20]=_:=h;simp only[List.cons.injEq,and_true]at h;obtain⟨g9,IB,g11,g12,g17,_⟩:=h;rw[hu]at hx;cases hx
    refine⟨H,.refl _,[10,11,12,17],by simp,fun c hc=>by simp at hc;show 10<=c;omega,rfl,rfl,fun j c p hj hp=>?_,fun j o hj hmj ho=>?_⟩
    ·match j,hj,hp with
     | 0,hj,hp=>cases hj;cases hp;exact⟨_,rfl,IB⟩
     | 1,hj,hp=>cases hj;cases hp;exact⟨_,rfl,g11⟩
     | 2,hj,hp=>cases hj;cases hp;exact⟨_,rfl,g12⟩
     | 3,hj,hp=>cases hj;cases hp;exact⟨_,rfl,g17⟩
     | j+4,hj,hp=>cases hj
    ·cases j with
     | zero=>cases ho;exact⟨_,rfl,g9⟩
     | succ j=>cases ho
   ·rw[hu]at hx;cases hx
    generalize hm':(bif P4 (mY c0 c1 c2 c3 c4 c5 c6 lim bs nw cost AJ 0 true) k key val then At (mY c0 c1 c2 c3 c4 c5 c6 lim bs nw cost AJ 0 true) 1 false else mY c0 c1 c2 c3 c4 c5 c6 lim bs nw cost AJ 0 true)=m' at h ⊢;generalize (bif P4 (mY c0 c1 c2 c3 c4 c5 c6 lim bs nw cost AJ 0 true) k key val then(0:Int)else 7)=w at h ⊢;have h:[H.get 9,H.get 10,H.get 11,H.get 12,H.get 17,H.get 18,H.get 19,H.get 20]=QA m'++[a',b',c',d']:=h;simp only[QA,List.cons_append,List.nil_append,List.cons.injEq,and_true]at h;obtain⟨g9,IB,g11,g12,_⟩:=h;have hM:FT H m':=⟨10,11,12,by decide,by decide,by decide,by decide,by decide,by decide,IB,g11,by rw[g9,EH],g12⟩;obtain⟨H2,k1,k2⟩:=QF (D:=fun b=>9<=b/\b < 9+1) (v:= .int .i64 w) ⟨Nat.le_refl 9,by decide⟩ hM;exact⟨H2,k1,dR rfl k2⟩
  ·cases hx
 ·cases hx
def bL (args:List Value) (objs:List AK):GT:=
 match args,objs with
 | [p,.agg ⟨[.int .i64 k,.int .i64 a,.int .i64 b,.string key,.string val]⟩,r],[.abs (.pack (.model m)) ro]=>
  .test (!(m.state==0)||k==7) (fM [p,.agg ⟨[.int .i64 k,.int .i64 a,.int .i64 b,.string key,.string val]⟩,r] [.abs (.pack (.model m)) ro])
   (.test m.AG (cu [p,.agg ⟨[.int .i64 k,.int .i64 a,.int .i64 b,.string key,.string val]⟩,r] [.abs (.pack (.model m)) ro]) (gN [p,.agg ⟨[.int .i64 k,.int .i64 a,.int .i64 b,.string key,.string val]⟩,r] [.abs (.pack (.model m)) ro]))
 | _,_=> .fail
def jJ (args:List Value) (objs:List AK):GT:=
 match args,objs with
 | [p,.agg ⟨[.int .i64 k,.int .i64 a,.int .i64 b,.string key,.string val]⟩,r],[.abs (.pack (.model m)) ro]=>
  .test m.AG (cu [p,.agg ⟨[.int .i64 k,.int .i64 a,.int .i64 b,.string key,.string val]⟩,r] [.abs (.pack (.model m)) ro]) (gN [p,.agg ⟨[.int .i64 k,.int .i64 a,.int .i64 b,.string key,.string val]⟩,r] [.abs (.pack (.model m)) ro])
 | _,_=> .fail
theorem Qz {b:Bool} {g1 g2:GT} {x:IL} (h:(GT.test b g1 g2).run=some x):g1.run=some x∨g2.run=some x:=by
 cases b
 ·exact .inr h
 ·exact .inl h
theorem cg:C3 Tryz.prog AL AX (Al AL 9 Dk (SR bL (KZ YK))):=by
 refine Ps ?_ bx;have hB:C3 Tryz.prog AL AX (Al AL 9 [true] jJ):=by
  refine C3.or cC UY (NL fun a o x hx=>?_);unfold jJ at hx;split at hx
  ·exact(Qz hx).imp (fun h=>⟨h,fun _ _=>rfl⟩) (fun h=>⟨h,fun _ _=>rfl⟩)
  ·cases hx
 refine C3.or Zb hB (NL fun a o x hx=>?_);unfold bL at hx;split at hx
 ·exact(Qz hx).imp (fun h=>⟨h,fun _ _=>rfl⟩) (fun h=>⟨h,fun _ _=>rfl⟩)
 ·cases hx
def vi (n:Nat):Value:= .int .i64 (.ofNat n)
def vy (n:Nat):Value:= .int .u8 (.ofNat n)
def vT:Value:= .bool true
def vF:Value:= .bool false
def vN:Value:= .slice none 0 0
def vs (b n c:Nat):Value:=sl b 0 n (18446744073709551616+c)
def vb (l:List Nat):Value:= .string (gY l)
def pq (f:FuncId) (l:List Nat):Code:=BI Tryz.prog f l
end Go.AI
