/-
  Part of the proof: the machine that runs a program by fixed orders, and that each of its runs is a run of the model; or a run of it in parts. No conditions.
-/
import Derived.Test.YtkccgiifmlhhjaaGreatDoorRfv
import Derived.Test.YtkccgiifmlhhjaaGreatDoorWrkK
import Derived.Test.YtkccgiifmlhhjaaGreatDoorInc
import Derived.Test.YtkccgiifmlhhjaaGreatDoorChecked
noncomputable section
set_option maxRecDepth 1000000
namespace Go.AD
open Go.Proofs Go.ChangeShapes
theorem ABU:K0 Tryz.prog AI oP:=Eq.mp (congrArg (fun l=>K0 Tryz.prog l oP) (by kernel_rfl)) gp
theorem ABj:CY Tryz.prog AI Dj uw:=CY.or (Kw ABU) (Kw ABU) fun args H r h=>by
 unfold uw at h;split at h
 ·cases h;exact .inl rfl
 ·cases h
theorem AAL {P:Program} {W:World} {r:Go.Reach} {b:Nat} {t:TypeId} {v:Value} {D:TypeDesc} (hu:P.underlying t=some D) (hD:(match D with | .struct _=>false | .array _ _=>false | _=>true)=true) (h:Value.okWide P W r b t v):Cell.okWide P W r b t v:=by
 unfold Value.okWide at h;rw[hu]at h;cases D<;>first | exact h | cases hD
theorem ABo {n:Int} (h:(Lit.int .u8 n).wf=true):0<=n/\n < 256:=by
 unfold Lit.wf at h;simp only[DL,Mr]at h;have h1:(0:Int)<=n:=h.1;have h2:n<=255:=h.2;exact⟨h1,by omega⟩
theorem ACj {l:List B2} (hl:∀y∈l,EK.Ms JQ y) (i:Nat):Ld (PJ l i):=by
 unfold PJ;rw[F5];cases h:l[i]? with
 | none=>exact⟨by decide,by decide,by decide,by decide,by decide,by decide⟩
 | some y=>
  have hy:=hl y (VE h);obtain⟨a0,a1⟩:=ABo hy.1;obtain⟨b0,b1⟩:=ABo hy.2.1;obtain⟨c0,c1⟩:=ABo hy.2.2.1;exact⟨a0,a1,b0,b1,c0,c1⟩
section
variable {H:Type} {enc:TypeId × Value->H} {W:World} {base:Nat} {args:BR} {ds:List (DataW H)} {ps:List MemPlace}
theorem ACG (hval:∀(j:Nat) t v,Tryz.f6.params[j]? = some t->args[j]? = some v->Value.okWide Tryz.prog W .any base t v) (hA:DataW.TrodAll enc Tryz.prog W 0 (fun _=>true) true Tryz.f6.params.toList args.toList ds ps)
 (hL0:Eb XRf (JE W) W):Calls Tryz.prog 6 args W fun e W'=>e= .returned (.bool true)/\Fk W W':=by
 rw[Tryz.params6]at hA hval;obtain⟨v0,vs,d0,ds0,p0,q0,ea,_,_,ht0,hA⟩:=trodAll_cons hA;obtain⟨v1,vs,d1,ds1,p1,q1,rfl,_,_,_,hA⟩:=trodAll_cons hA;obtain⟨v2,vs,d2,ds2,p2,q2,rfl,_,_,_,hA⟩:=trodAll_cons hA;obtain⟨rfl,_,_⟩:=trodAll_nil hA;obtain rfl:args=#[v0,v1,v2]:=by cases args;simp_all
 obtain⟨a,rfl,_⟩:=bM Tryz.underlying5 (AAL Tryz.underlying5 rfl (hval 1 5 v1 rfl rfl));obtain⟨k,rfl,ek⟩:=bM Tryz.underlying23 (AAL Tryz.underlying23 rfl (hval 2 23 v2 rfl rfl));have hok0:=AAL Tryz.underlying22 rfl (hval 0 22 v0 rfl rfl);have hcs:v0.cells.toList=[v0]:=by rcases bl Tryz.underlying22 hok0 with rfl | ⟨_,_,_,_,rfl,_⟩<;>rfl
 obtain⟨fuel0,ht0⟩:=ht0;rw[hcs]at ht0;obtain⟨μ,s1,s2,_⟩:=bq (X:=XRf) hL0 (n:=20) (by kernel_rfl) Tryz.underlying22 (k:=JQ) (by kernel_rfl) rfl hok0 ht0;obtain⟨T0,hT0,_⟩:=s2 0 (by kernel_rfl);obtain⟨l,T1,hl,_,s3,s4,hv1⟩:=iu s1 s2 (fun b p hb=>by rw[GM]at hb;cases hb) ⟨0,T0,hT0⟩ Tryz.underlying22 (k:=JQ) (by kernel_rfl) rfl hok0 ht0;have h3:(0:Int)<=k:=ek.1;have h4:k<=65535:=ek.2;exact MS (X:=XRf) ((AC7 ABj 0 0).all.IN _ _ hL0) (Hl (by kernel_rfl) rfl) (n:=216) (N:=21) (by kernel_rfl) s3 s4 (args:=[Ao 20 l.length,.int .u8 a,.int .u16 k])
  (.cons (by unfold Aa at hv1;exact hv1) (.cons (.int _ _) (.cons (.int _ _) .nil))) (by simp) (ACh ABj (ACj hl) h3 (by omega)) rfl
end
end Go.AD
