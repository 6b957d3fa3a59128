/-
  Part of the proof: the machine that runs a program by fixed orders, and that each of its runs is a run of the model; or a run of it in parts. No conditions.
-/
import Derived.Test.YtkccgiifmlhhjaaGreatDoorQi
import Derived.Test.YtkccgiifmlhhjaaGreatDoorWrkK
import Derived.Test.YtkccgiifmlhhjaaGreatDoorInc
import Derived.Test.YtkccgiifmlhhjaaGreatDoorChecked
noncomputable section
set_option maxRecDepth 1000000
namespace Go.AD
open Go.Proofs Go.ChangeShapes
theorem Sw:K0 Tryz.prog AI oP:=Eq.mp (congrArg (fun l=>K0 Tryz.prog l oP) (by kernel_rfl)) gp
theorem Zp:CY Tryz.prog AI Dj uw:=CY.or (Kw Sw) (Kw Sw) fun args H r h=>by
 unfold uw at h;split at h
 ·cases h;exact .inl rfl
 ·cases h
theorem Oc {P:Program} {W:World} {r:Go.Reach} {b:Nat} {t:TypeId} {v:Value} {D:TypeDesc} (hu:P.underlying t=some D) (hD:(match D with | .struct _=>false | .array _ _=>false | _=>true)=true) (h:Value.okWide P W r b t v):Cell.okWide P W r b t v:=by
 unfold Value.okWide at h;rw[hu]at h;cases D<;>first | exact h | cases hD
theorem Y5 {n:Int} (h:(Lit.int .u8 n).wf=true):0<=n/\n < 256:=by
 unfold Lit.wf at h;simp only[zB,zW]at h;have h1:(0:Int)<=n:=h.1;have h2:n<=255:=h.2;exact⟨h1,by omega⟩
theorem r9 {l:List B2} (hl:∀y∈l,EK.Ms JQ y) (i:Nat):Ld (PJ l i):=by
 unfold PJ;rw[zK];cases h:l[i]? with
 | none=>exact⟨by decide,by decide,by decide,by decide,by decide,by decide⟩
 | some y=>
  have hy:=hl y (zp h);obtain⟨a0,a1⟩:=Y5 hy.1;obtain⟨b0,b1⟩:=Y5 hy.2.1;obtain⟨c0,c1⟩:=Y5 hy.2.2.1;exact⟨a0,a1,b0,b1,c0,c1⟩
section
variable {H:Type} {enc:TypeId × Value->H} {W:World} {base:Nat} {args:BR} {ds:List (DataW H)} {ps:List MemPlace}
theorem vd (hval:∀(j:Nat) t v,Tryz.f3.params[j]? = some t->args[j]? = some v->Value.okWide Tryz.prog W .any base t v) (hA:DataW.TrodAll enc Tryz.prog W 0 (fun _=>true) true Tryz.f3.params.toList args.toList ds ps)
 (hL0:Eb Ut (JE W) W):Calls Tryz.prog 3 args W fun e W'=>e= .returned (.bool true)/\Fk W W':=by
 rw[Tryz.params3]at hA hval;obtain⟨v0,vs,d0,ds0,p0,q0,ea,_,_,ht0,hA⟩:=trodAll_cons hA;obtain⟨v1,vs,d1,ds1,p1,q1,rfl,_,_,_,hA⟩:=trodAll_cons hA;obtain⟨v2,vs,d2,ds2,p2,q2,rfl,_,_,_,hA⟩:=trodAll_cons hA;obtain⟨rfl,_,_⟩:=trodAll_nil hA;obtain rfl:args=#[v0,v1,v2]:=by cases args;simp_all
 obtain⟨a,rfl,eu⟩:=bM Tryz.underlying5 (Oc Tryz.underlying5 rfl (hval 1 5 v1 rfl rfl));obtain⟨k,rfl,ek⟩:=bM Tryz.underlying23 (Oc Tryz.underlying23 rfl (hval 2 23 v2 rfl rfl));have hok0:=Oc Tryz.underlying22 rfl (hval 0 22 v0 rfl rfl);have hcs:v0.cells.toList=[v0]:=by rcases bl Tryz.underlying22 hok0 with rfl | ⟨_,_,_,_,rfl,_⟩<;>rfl
 obtain⟨fuel0,ht0⟩:=ht0;rw[hcs]at ht0;obtain⟨μ,s1,s2,_⟩:=bq (X:=Ut) hL0 (n:=20) (by kernel_rfl) Tryz.underlying22 (k:=JQ) (by kernel_rfl) rfl hok0 ht0;obtain⟨T0,hT0,_⟩:=s2 0 (by kernel_rfl);obtain⟨l,T1,hl,_,s3,s4,hv1⟩:=iu s1 s2 (fun b p hb=>by rw[GM]at hb;cases hb) ⟨0,T0,hT0⟩ Tryz.underlying22 (k:=JQ) (by kernel_rfl) rfl hok0 ht0;have h1:(0:Int)<=a:=eu.1;have h2:a<=255:=eu.2;have h3:(0:Int)<=k:=ek.1;exact MS (X:=Ut) ((xD Zp).all.IN _ _ hL0) (Hl (by kernel_rfl) rfl) (n:=237) (N:=21) (by kernel_rfl) s3 s4 (args:=[Ao 20 l.length,.int .u8 a,.int .u16 k])
  (.cons (by unfold Aa at hv1;exact hv1) (.cons (.int _ _) (.cons (.int _ _) .nil))) (by simp) (nK Zp (r9 hl) h1 (by omega) h3) rfl
end
end Go.AD
