/-
  Part of the proof: the machine that runs a program by fixed orders, and that each of its runs is a run of the model; or a run of it in parts. No conditions.
-/
import Derived.Test.YtkccgiifmlhhjaaGreatDoorFic
import Derived.Test.YtkccgiifmlhhjaaGreatDoorWrkK
import Derived.Test.YtkccgiifmlhhjaaGreatDoorInc
import Derived.Test.YtkccgiifmlhhjaaGreatDoorChecked
noncomputable section
set_option maxRecDepth 1000000
namespace Go.AD
open Go.Proofs Go.ChangeShapes
theorem y6:K0 Tryz.prog AI oP:=Eq.mp (congrArg (fun l=>K0 Tryz.prog l oP) (by kernel_rfl)) gp
theorem zG:CY Tryz.prog AI Dj uw:=CY.or (Kw y6) (Kw y6) fun args H r h=>by
 unfold uw at h;split at h
 ·cases h;exact .inl rfl
 ·cases h
theorem ek {P:Program} {W:World} {r:Go.Reach} {b:Nat} {t:TypeId} {v:Value} {D:TypeDesc} (hu:P.underlying t=some D) (hD:(match D with | .struct _=>false | .array _ _=>false | _=>true)=true) (h:Value.okWide P W r b t v):Cell.okWide P W r b t v:=by
 unfold Value.okWide at h;rw[hu]at h;cases D<;>first | exact h | cases hD
theorem zU {n:Int} (h:(Lit.int .u8 n).wf=true):0<=n/\n < 256:=by
 unfold Lit.wf at h;simp only[DL,Mr]at h;have h1:(0:Int)<=n:=h.1;have h2:n<=255:=h.2;exact⟨h1,by omega⟩
theorem AAp {l:List B2} (hl:∀y∈l,EK.Ms JQ y) (i:Nat):Ld (PJ l i):=by
 unfold PJ;rw[F5];cases h:l[i]? with
 | none=>exact⟨by decide,by decide,by decide,by decide,by decide,by decide⟩
 | some y=>
  have hy:=hl y (VE h);obtain⟨a0,a1⟩:=zU hy.1;obtain⟨b0,b1⟩:=zU hy.2.1;obtain⟨c0,c1⟩:=zU hy.2.2.1;exact⟨a0,a1,b0,b1,c0,c1⟩
theorem AAz {l:Ad} (hl:∀y∈l,EK.Ms kb y):Kps l:=fun y hy=>by
 have h:=hl y hy;have h:(Lit.int .u16 y).wf=true:=h;unfold Lit.wf at h;simp only[DL,Mr]at h;exact h.1
section
variable {H:Type} {enc:TypeId × Value->H} {W:World} {base:Nat} {args:BR} {ds:List (DataW H)} {ps:List MemPlace}
theorem AAJ (hval:∀(j:Nat) t v,Tryz.f5.params[j]? = some t->args[j]? = some v->Value.okWide Tryz.prog W .any base t v) (hA:DataW.TrodAll enc Tryz.prog W 0 (fun _=>true) true Tryz.f5.params.toList args.toList ds ps)
 (hL0:Eb XFi (JE W) W):Calls Tryz.prog 5 args W fun e W'=>e= .returned (.bool true)/\Fk W W':=by
 rw[Tryz.params5]at hA hval;obtain⟨v0,vs,d0,ds0,p0,q0,ea,_,_,ht0,hA⟩:=trodAll_cons hA;obtain⟨v1,vs,d1,ds1,p1,q1,rfl,_,_,_,hA⟩:=trodAll_cons hA;obtain⟨v2,vs,d2,ds2,p2,q2,rfl,_,_,ht2,hA⟩:=trodAll_cons hA;obtain⟨rfl,_,_⟩:=trodAll_nil hA;obtain rfl:args=#[v0,v1,v2]:=by cases args;simp_all
 obtain⟨c,rfl⟩:=AAT Tryz.underlying4 (ek Tryz.underlying4 rfl (hval 1 4 v1 rfl rfl));have hok0:=ek Tryz.underlying22 rfl (hval 0 22 v0 rfl rfl);have hok2:=ek Tryz.underlying59 rfl (hval 2 59 v2 rfl rfl);have hcs:v0.cells.toList=[v0]:=by rcases bl Tryz.underlying22 hok0 with rfl | ⟨_,_,_,_,rfl,_⟩<;>rfl
 have hcs2:v2.cells.toList=[v2]:=by rcases bl Tryz.underlying59 hok2 with rfl | ⟨_,_,_,_,rfl,_⟩<;>rfl
 obtain⟨fuel0,ht0⟩:=ht0;rw[hcs]at ht0;obtain⟨fuel2,ht2⟩:=ht2;rw[hcs2]at ht2;obtain⟨μ,s1,s2,_⟩:=bq (X:=XFi) hL0 (n:=20) (by kernel_rfl) Tryz.underlying22 (k:=JQ) (by kernel_rfl) rfl hok0 ht0;obtain⟨T0,hT0,_⟩:=s2 0 (by kernel_rfl);obtain⟨l,T1,hl,_,s3,s4,hv1⟩:=iu s1 s2 (fun b p hb=>by rw[GM]at hb;cases hb) ⟨0,T0,hT0⟩ Tryz.underlying22 (k:=JQ) (by kernel_rfl) rfl hok0 ht0;have hro:∀b p,((⟨.leaf,20⟩:AA).alloc (.vec JQ l true)).get b=some p->p.ro=true/\p.isAbs=false:=fun b p hb=>by
  rw[AA.AM]at hb;split at hb
  ·cases hb;exact⟨rfl,rfl⟩
  ·rw[GM]at hb;cases hb
 obtain⟨kp,T2,hm,_,s5,s6,hv2⟩:=iu s3 s4 hro ⟨20,T1,Ae.Af _ _ _⟩ Tryz.underlying59 (k:=kb) (by kernel_rfl) rfl hok2 ht2;have hv1:=hv1.mono (Ae.Cc T2 (s3.fresh _ (CC _)).2);exact MS (X:=XFi) ((ABH zG).all.IN _ _ hL0) (Hl (by kernel_rfl) rfl) (n:=279) (N:=22) (by kernel_rfl) s5 s6 (args:=[Ao 20 l.length,.bool c,Ao 21 kp.length])
  (.cons (by unfold Aa at hv1;exact hv1) (.cons (.bool _) (.cons (by unfold Aa at hv2;exact hv2) .nil))) (by simp) (AAi zG (AAp hl) (AAz hm)) rfl
end
end Go.AD
