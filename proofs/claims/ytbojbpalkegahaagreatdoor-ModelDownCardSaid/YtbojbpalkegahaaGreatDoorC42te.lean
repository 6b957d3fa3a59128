/-
  Part of the proof: the machine that runs a program by fixed orders, and that each of its runs is a run of the model; or a run of it in parts. No conditions.
-/
import Derived.Test.YtbojbpalkegahaaGreatDoorC42td
import Derived.Test.YtbojbpalkegahaaGreatDoorWrkK
import Derived.Test.YtbojbpalkegahaaGreatDoorChecked
set_option maxRecDepth 1000000
namespace Go.AD
open Go.Proofs Go.ChangeShapes
theorem U1:IN Tryz.prog AM VA:=Eq.mp (congrArg (fun l=>IN Tryz.prog l VA) (by kernel_rfl)) Xt
theorem IS {P:Program} {W:World} {r:Go.Reach} {b:Nat} {t:TypeId} {v:Value} {D:TypeDesc} (hu:P.underlying t=some D) (hD:(match D with | .struct _=>false | .array _ _=>false | _=>true)=true) (h:Value.okWide P W r b t v):Cell.okWide P W r b t v:=by
 unfold Value.okWide at h
 rw[hu]at h
 cases D<;>first | exact h | cases hD
theorem St {n:Int} (h:IntKind.has .u8 n):Eg n:=by
 have h1:(0:Int)≤n:=h.1
 have h2:n≤255:=h.2
 exact⟨h1,by omega⟩
theorem Kg {n:Int} (h:(Lit.int .u8 n).wf=true):Eg n:=by
 unfold Lit.wf at h
 simp only[Bool.and_eq_true,decide_eq_true_eq]at h
 have h1:(0:Int)≤n:=h.1
 have h2:n≤255:=h.2
 exact⟨h1,by omega⟩
section
variable {H:Type} {enc:TypeId × Value→H} {W:World} {base:Nat} {args:Array Value} {ds:List (DataW H)} {ps:List MemPlace}
theorem WL (hval:∀(j:Nat) t v,Tryz.f6.params[j]? = some t→args[j]? = some v→Value.okWide Tryz.prog W .any base t v) (hA:DataW.TrodAll enc Tryz.prog W 0 (fun _=>true) true Tryz.f6.params.toList args.toList ds ps)
 (hL0:DX LG (Je W) W):Calls Tryz.prog 6 args W fun e W'=>e= .returned (.bool true)∧Dh W W':=by
 rw[Tryz.params6]at hA hval
 obtain⟨v0,vs,d0,ds0,p0,q0,ea,_,_,_,hA⟩:=trodAll_cons hA
 obtain⟨v1,vs,d1,ds1,p1,q1,rfl,_,_,ht1,hA⟩:=trodAll_cons hA
 obtain⟨v2,vs,d2,ds2,p2,q2,rfl,_,_,ht2,hA⟩:=trodAll_cons hA
 obtain⟨v3,vs,d3,ds3,p3,q3,rfl,_,_,_,hA⟩:=trodAll_cons hA
 obtain⟨rfl,_,_⟩:=trodAll_nil hA
 obtain rfl:args=#[v0,v1,v2,v3]:=by cases args;simp_all
 obtain⟨slots,rfl,e0⟩:=Sw Tryz.underlying5 (IS Tryz.underlying5 rfl (hval 0 5 v0 rfl rfl))
 obtain⟨times,rfl,e3⟩:=Sw Tryz.underlying5 (IS Tryz.underlying5 rfl (hval 3 5 v3 rfl rfl))
 have hok1:=IS Tryz.underlying22 rfl (hval 1 22 v1 rfl rfl)
 have hok2:=IS Tryz.underlying22 rfl (hval 2 22 v2 rfl rfl)
 have hcs:∀v,Cell.okWide Tryz.prog W .any base 22 v→v.cells.toList=[v]:=fun v hok=>by
  rcases Ue Tryz.underlying22 hok with rfl | ⟨_,_,_,_,rfl,_⟩<;>rfl
 obtain⟨fuel1,ht1⟩:=ht1
 rw[hcs v1 hok1]at ht1
 obtain⟨fuel2,ht2⟩:=ht2
 rw[hcs v2 hok2]at ht2
 obtain⟨μ,s1,s2,_⟩:=U3 (X:=LG) hL0 (n:=9) (by kernel_rfl) Tryz.underlying22 (k:=BT) (by kernel_rfl) rfl hok1 ht1
 obtain⟨T0,hT0,_⟩:=s2 0 (by kernel_rfl)
 obtain⟨l,T1,hl,_,s3,s4,hv1⟩:=PZ s1 s2 (fun b p hb=>by rw[Hy]at hb;cases hb) ⟨0,T0,hT0⟩ Tryz.underlying22 (k:=BT) (by kernel_rfl) rfl hok1 ht1
 have hro:∀b p,((⟨.leaf,9⟩:AA).alloc (.vec BT l true)).get b=some p→p.ro=true∧p.isAbs=false:=fun b p hb=>by
  rw[AA.AQ]at hb
  split at hb
  ·cases hb;exact⟨rfl,rfl⟩
  ·rw[Hy]at hb;cases hb
 obtain⟨more,T2,hm,_,s5,s6,hv2⟩:=PZ s3 s4 hro ⟨9,T1,Ad.Ak _ _ _⟩ Tryz.underlying22 (k:=BT) (by kernel_rfl) rfl hok2 ht2
 have hv1:=hv1.mono (Ad.DK T2 (s3.fresh _ (Nat.le_refl _)).2)
 exact Rc (X:=LG) ((eQ U1).GC _ _ hL0) (FZ (by kernel_rfl) rfl) (n:=210) (N:=11) (by kernel_rfl) s5 s6 (args:=[.int .u8 slots,.slice (some ⟨9,0,some 0⟩) l.length AE,.slice (some ⟨10,0,some 0⟩) more.length AE,.int .u8 times])
  (.cons (.int _ _) (.cons hv1 (.cons hv2 (.cons (.int _ _) .nil)))) (by simp) (c9 (fun y hy=>⟨Kg (hl y hy).1,Kg (hl y hy).2.1,Kg (hl y hy).2.2⟩) (fun y hy=>⟨Kg (hm y hy).1,Kg (hm y hy).2.1,Kg (hm y hy).2.2⟩) (St e3) (St e0)) rfl
end
end Go.AD
