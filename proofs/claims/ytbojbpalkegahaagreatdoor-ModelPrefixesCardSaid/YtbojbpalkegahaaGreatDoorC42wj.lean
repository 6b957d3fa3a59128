/-
  Part of the proof: the machine that runs a program by fixed orders, and that each of its runs is a run of the model; or a run of it in parts. No conditions.
-/
import Derived.Test.YtbojbpalkegahaaGreatDoorC42wi
import Derived.Test.YtbojbpalkegahaaGreatDoorWrkK
import Derived.Test.YtbojbpalkegahaaGreatDoorChecked
noncomputable section
set_option maxRecDepth 1000000
namespace Go.AI
open Go.Proofs Go.ChangeShapes
theorem Vx:JL Tryz.prog AL WV:=Eq.mp (congrArg (fun l=>JL Tryz.prog l WV) (by kernel_rfl)) Yq
theorem K8 {P:Program} {W:World} {r:Go.Reach} {b:Nat} {t:TypeId} {v:Value} {D:TypeDesc} (hu:P.underlying t=some D) (hD:(match D with | .struct _=>false | .array _ _=>false | _=>true)=true) (h:Value.okWide P W r b t v):Cell.okWide P W r b t v:=by
 unfold Value.okWide at h;rw[hu]at h;cases D<;>first | exact h | cases hD
theorem MG {n:Int} (h:IntKind.has .u8 n):DJ n:=by
 have h1:(0:Int)<=n:=h.1;have h2:n<=255:=h.2;exact⟨h1,by omega⟩
theorem LO {n:Int} (h:(Lit.int .u8 n).wf=true):DJ n:=by
 unfold Lit.wf at h;simp only[Bool.and_eq_true,decide_eq_true_eq]at h;have h1:(0:Int)<=n:=h.1;have h2:n<=255:=h.2;exact⟨h1,by omega⟩
section
variable {H:Type} {enc:TypeId × Value->H} {W:World} {base:Nat} {args:Array Value} {ds:List (DataW H)} {ps:List MemPlace}
end
section
variable {H:Type} {enc:TypeId × Value->H} {W:World} {base:Nat} {args:Array Value} {ds:List (DataW H)} {ps:List MemPlace}
theorem YE (hval:∀(j:Nat) t v,Tryz.f5.params[j]? = some t->args[j]? = some v->Value.okWide Tryz.prog W .any base t v) (hA:DataW.TrodAll enc Tryz.prog W 0 (fun _=>true) true Tryz.f5.params.toList args.toList ds ps)
 (hL0:Ds E0 (K2 W) W):Calls Tryz.prog 5 args W fun e W'=>e= .returned (.bool true)/\D5 W W':=by
 rw[Tryz.params5]at hA hval;obtain⟨v0,vs,d0,ds0,p0,q0,ea,_,_,_,hA⟩:=trodAll_cons hA;obtain⟨v1,vs,d1,ds1,p1,q1,rfl,_,_,ht1,hA⟩:=trodAll_cons hA;obtain⟨v2,vs,d2,ds2,p2,q2,rfl,_,_,_,hA⟩:=trodAll_cons hA;obtain⟨v3,vs,d3,ds3,p3,q3,rfl,_,_,ht3,hA⟩:=trodAll_cons hA;obtain⟨rfl,_,_⟩:=trodAll_nil hA;obtain rfl:args=#[v0,v1,v2,v3]:=by cases args;simp_all
 obtain⟨slots,rfl,e0⟩:=MY Tryz.underlying5 (K8 Tryz.underlying5 rfl (hval 0 5 v0 rfl rfl));obtain⟨cs,rfl,hf⟩:=Yp (ts:=[5,5,5]) (by kernel_rfl) (by kernel_rfl) (by kernel_rfl) (hval 2 28 v2 rfl rfl);cases hf with | cons ha hf=>
 cases hf with | cons hb hf=>
 cases hf with | cons hc hf=>
 cases hf
 obtain⟨la,rfl,xa⟩:=MY Tryz.underlying5 ha;obtain⟨lb,rfl,xb⟩:=MY Tryz.underlying5 hb;obtain⟨lc,rfl,xc⟩:=MY Tryz.underlying5 hc;have hok1:=K8 Tryz.underlying22 rfl (hval 1 22 v1 rfl rfl);have hok3:=K8 Tryz.underlying22 rfl (hval 3 22 v3 rfl rfl);have hcs:∀v,Cell.okWide Tryz.prog W .any base 22 v->v.cells.toList=[v]:=fun v hok=>by
  rcases VR Tryz.underlying22 hok with rfl | ⟨_,_,_,_,rfl,_⟩<;>rfl
 obtain⟨fuel1,ht1⟩:=ht1;rw[hcs v1 hok1]at ht1;obtain⟨fuel3,ht3⟩:=ht3;rw[hcs v3 hok3]at ht3;obtain⟨μ,s1,s2,_⟩:=V5 (X:=E0) hL0 (n:=9) (by kernel_rfl) Tryz.underlying22 (k:=Bq) (by kernel_rfl) rfl hok1 ht1;obtain⟨T0,hT0,_⟩:=s2 0 (by kernel_rfl);obtain⟨l,T1,hl,_,s3,s4,hv1⟩:=Qj s1 s2 (fun b p hb=>by rw[Io]at hb;cases hb) ⟨0,T0,hT0⟩ Tryz.underlying22 (k:=Bq) (by kernel_rfl) rfl hok1 ht1;have hro:∀b p,((⟨.leaf,9⟩:AA).alloc (.vec Bq l true)).get b=some p->p.ro=true/\p.isAbs=false:=fun b p hb=>by
  rw[AA.AW]at hb;split at hb
  ·cases hb;exact⟨rfl,rfl⟩
  ·rw[Io]at hb;cases hb
 obtain⟨other,T2,hm,_,s5,s6,hv2⟩:=Qj s3 s4 hro ⟨9,T1,Ai.Av _ _ _⟩ Tryz.underlying22 (k:=Bq) (by kernel_rfl) rfl hok3 ht3;have hv1:=hv1.mono (Ai.DU T2 (s3.fresh _ (Nat.le_refl _)).2);exact Sl (X:=E0) ((g8 Vx).Ep _ _ hL0) (GA (by kernel_rfl) rfl) (n:=272) (N:=11) (by kernel_rfl) s5 s6 (args:=[.int .u8 slots,.slice (some ⟨9,0,some 0⟩) l.length AF,.agg ⟨[.int .u8 la,.int .u8 lb,.int .u8 lc]⟩,.slice (some ⟨10,0,some 0⟩) other.length AF])
  (.cons (.int _ _) (.cons hv1 (.cons (Cp rfl) (.cons hv2 .nil)))) (by simp) (gB (fun y hy=>⟨LO (hl y hy).1,LO (hl y hy).2.1,LO (hl y hy).2.2⟩) (fun y hy=>⟨LO (hm y hy).1,LO (hm y hy).2.1,LO (hm y hy).2.2⟩) ⟨MG xa,MG xb,MG xc⟩ (MG e0)) rfl
end
end Go.AI
