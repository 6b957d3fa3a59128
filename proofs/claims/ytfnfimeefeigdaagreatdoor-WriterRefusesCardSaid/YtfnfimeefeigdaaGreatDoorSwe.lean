/-
  Part of the proof. No conditions.
-/
import Derived.Test.YtfnfimeefeigdaaGreatDoorSuArg
import Derived.Test.YtfnfimeefeigdaaGreatDoorWrkK
import Derived.Test.YtfnfimeefeigdaaGreatDoorChecked
noncomputable section
set_option maxRecDepth 1000000
namespace Go.AB
open Go.Proofs Go.ChangeShapes
theorem S3:Il Tryz.prog AG mh:=Eq.mp (congrArg (fun l=>Il Tryz.prog l mh) (by kernel_rfl)) jW
theorem Z4:CH Tryz.prog AG DN tT:=CH.or (K6 S3) (K6 S3) fun args H r h=>by
 unfold tT at h;split at h
 .cases h;exact .inl rfl
 .cases h
section
variable {H:Type}{enc:TypeId × Value->H}{W:World}{base:Nat}{args:BE}{ds:List (DataW H)}{ps:List MemPlace}
end
theorem po{P:Program}{W:World}{r:Go.Reach}{b:Nat}{t:TypeId}{v:Value}{D:TypeDesc}(hu:P.underlying t=some D)(hD:(match D with | .struct _=>false | .array _ _=>false | _=>true)=true)(h:Value.okWide P W r b t v):Cell.okWide P W r b t v:=by
 unfold Value.okWide at h;rw[hu]at h;cases D<;>first | exact h | cases hD
section
variable {H:Type}{enc:TypeId × Value->H}{W:World}{base:Nat}{args:BE}{ds:List (DataW H)}{ps:List MemPlace}
theorem iR(hval:∀(j:Nat) t v,Tryz.f5.params[j]? = some t->args[j]? = some v->Value.okWide Tryz.prog W .any base t v)(hA:DataW.TrodAll enc Tryz.prog W 0 (fun _=>true) true Tryz.f5.params.toList args.toList ds ps)(hL0:Dt sI (Gp W) W):Calls Tryz.prog 5 args W fun e W'=>e= .returned (.bool true)/\FX W W':=by
 rw[Tryz.params5]at hA hval;obtain⟨v0,vs,d0,ds0,Hj,q0,ea,_,_,ht0,hA⟩:=trodAll_cons hA;obtain⟨v1,vs1,d1,ds1,pt1,q1,rfl,_,_,_,hA⟩:=trodAll_cons hA;obtain⟨rfl,_,_⟩:=trodAll_nil hA;obtain rfl:args=#[v0,v1]:=by cases args;simp_all
 obtain⟨fuel0,ht0⟩:=ht0;obtain⟨C3,rfl,ek⟩:=Iq Tryz.underlying57 (po Tryz.underlying57 rfl (hval 1 57 v1 rfl rfl));have h3:(0:Int)<=C3:=ek.1;have h4:C3<=65535:=ek.2;obtain⟨a,b,c,d,e,f,g,l,Z,hs,hl,k3,k4,hv⟩:=j7 (X:=sI) hL0 (by kernel_rfl) ⟨0,by kernel_rfl⟩ (hval 0 25 v0 rfl rfl) ht0;exact Jg (X:=sI) ((wu Z4).all.Hp _ _ hL0) (Gq (by kernel_rfl) rfl) (n:=193) (N:=21) (by kernel_rfl) k3 k4 (args:=[tO a b c d e f g l.length,.int .u16 C3]) (.cons hv (.cons (.int _ _) .nil)) (by simp) (nY Z4 hs hl (AAT _) h3 (by omega)) rfl
end
end Go.AB
