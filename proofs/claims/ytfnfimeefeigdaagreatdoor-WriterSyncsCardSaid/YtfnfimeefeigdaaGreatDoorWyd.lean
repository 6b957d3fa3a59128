/-
  Part of the proof: the machine that runs a program by fixed orders, and that each of its runs is a run of the model; or a run of it in parts. No conditions.
-/
import Derived.Test.YtfnfimeefeigdaaGreatDoorSuArg
import Derived.Test.YtfnfimeefeigdaaGreatDoorWrkK
import Derived.Test.YtfnfimeefeigdaaGreatDoorChecked
noncomputable section
set_option maxRecDepth 1000000
namespace Go.AD
open Go.Proofs Go.ChangeShapes
theorem Sa:K0 Tryz.prog AI oP:=Eq.mp (congrArg (fun l=>K0 Tryz.prog l oP) (by kernel_rfl)) gp
theorem cP:CY Tryz.prog AI HI uw:=CY.or (Kw Sa) (Kw Sa) fun args H r h=>by
 unfold uw at h;split at h
 ·cases h;exact .inl rfl
 ·cases h
section
variable {H:Type} {enc:TypeId × Value->H} {W:World} {base:Nat} {args:BR} {ds:List (DataW H)} {ps:List MemPlace}
theorem jG (hval:∀(j:Nat) t v,Tryz.f3.params[j]? = some t->args[j]? = some v->Value.okWide Tryz.prog W .any base t v) (hA:DataW.TrodAll enc Tryz.prog W 0 (fun _=>true) true Tryz.f3.params.toList args.toList ds ps)
 (hL0:Eb pR (JE W) W):Calls Tryz.prog 3 args W fun e W'=>e= .returned (.bool true)/\Fk W W':=by
 rw[Tryz.params3]at hA hval;obtain⟨v0,vs,d0,ds0,AAI,q0,ea,_,_,ht0,hA⟩:=trodAll_cons hA;obtain⟨rfl,_,_⟩:=trodAll_nil hA;obtain rfl:args=#[v0]:=by cases args;simp_all
 obtain⟨fuel0,ht0⟩:=ht0;obtain⟨a,b,c,d,e,f,g,l,μ,hs,hl,k3,k4,hv⟩:=kj (X:=pR) hL0 (by kernel_rfl) ⟨0,by kernel_rfl⟩ (hval 0 25 v0 rfl rfl) ht0;exact MS (X:=pR) ((zQ cP).all.IN _ _ hL0) (Hl (by kernel_rfl) rfl) (n:=143) (N:=21) (by kernel_rfl) k3 k4 (args:=[zD a b c d e f g l.length]) (.cons hv .nil) (by simp) (rS cP hs hl (GO _)) rfl
end
end Go.AD
