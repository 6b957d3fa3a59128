/-
  Part of the proof: the machine that runs a program by fixed orders, and that each of its runs is a run of the model; or a run of it in parts. No conditions.
-/
import Derived.Test.YtbojbpalkegahaaGreatDoorC42ee
import Derived.Test.YtbojbpalkegahaaGreatDoorWrkK
import Derived.Test.YtbojbpalkegahaaGreatDoorChecked
set_option maxRecDepth 1000000
namespace Go.AD
open Go.Proofs Go.ChangeShapes
theorem Kb:IH Tryz.prog AL UZ:=Eq.mp (congrArg (fun l=>IH Tryz.prog l UZ) (by kernel_rfl)) Xn
theorem Jt {P:Program} {W:World} {r:Go.Reach} {b:Nat} {t:TypeId} {v:Value} {D:TypeDesc} (hu:P.underlying t=some D) (hD:(match D with | .struct _=>false | .array _ _=>false | _=>true)=true) (h:Value.okWide P W r b t v):Cell.okWide P W r b t v:=by
 unfold Value.okWide at h
 rw[hu]at h
 cases D<;>first | exact h | cases hD
theorem So {n:Int} (h:IntKind.has .u8 n):Gk n:=by
 have h1:(0:Int)≤n:=h.1
 have h2:n≤255:=h.2
 exact⟨h1,by omega⟩
theorem ZF {n:Int} (h:IntKind.has .u16 n):0≤n∧n < 65536:=by
 have h1:(0:Int)≤n:=h.1
 have h2:n≤65535:=h.2
 exact⟨h1,by omega⟩
theorem TD {n:Int} (h:IntKind.has .i64 n):Ok n:=by
 have h1:(-9223372036854775808:Int)≤n:=h.1
 have h2:n≤9223372036854775807:=h.2
 exact⟨by omega,by omega⟩
theorem RE {n:Int} (h:(Lit.int .u8 n).wf=true):Gk n:=by
 unfold Lit.wf at h
 simp only[Bool.and_eq_true,decide_eq_true_eq]at h
 have h1:(0:Int)≤n:=h.1
 have h2:n≤255:=h.2
 exact⟨h1,by omega⟩
section
variable {H:Type} {enc:TypeId × Value→H} {W:World} {base:Nat} {args:Array Value} {ds:List (DataW H)} {ps:List MemPlace}
theorem WB (hval:∀(j:Nat) t v,Tryz.f4.params[j]? = some t→args[j]? = some v→Value.okWide Tryz.prog W .any base t v) (hA:DataW.TrodAll enc Tryz.prog W 0 (fun _=>true) true Tryz.f4.params.toList args.toList ds ps)
 (hL0:DR NY (M0 W) W):Calls Tryz.prog 4 args W fun e W'=>e= .returned (.bool true)∧Df W W':=by
 rw[Tryz.params4]at hA hval
 obtain⟨v0,vs,d0,ds0,p0,q0,ea,_,_,_,hA⟩:=trodAll_cons hA
 obtain⟨v1,vs,d1,ds1,p1,q1,rfl,_,_,ht,hA⟩:=trodAll_cons hA
 obtain⟨v2,vs,d2,ds2,p2,q2,rfl,_,_,_,hA⟩:=trodAll_cons hA
 obtain⟨v3,vs,d3,ds3,p3,q3,rfl,_,_,_,hA⟩:=trodAll_cons hA
 obtain⟨rfl,_,_⟩:=trodAll_nil hA
 obtain rfl:args=#[v0,v1,v2,v3]:=by cases args;simp_all
 obtain⟨slots,rfl,e0⟩:=Jf Tryz.underlying5 (Jt Tryz.underlying5 rfl (hval 0 5 v0 rfl rfl))
 obtain⟨Be,rfl,e3⟩:=Jf Tryz.underlying39 (Jt Tryz.underlying39 rfl (hval 3 39 v3 rfl rfl))
 obtain⟨cs,rfl,hf⟩:=XG (ts:=[3,3,3,9,9]) (by kernel_rfl) (by kernel_rfl) (by kernel_rfl) (hval 2 38 v2 rfl rfl)
 cases hf with | cons c0 hf=>
 cases hf with | cons c1 hf=>
 cases hf with | cons c2 hf=>
 cases hf with | cons c3 hf=>
 cases hf with | cons c4 hf=>
 cases hf
 obtain⟨k,rfl,_⟩:=Jf Tryz.underlying3 c0
 obtain⟨a,rfl,ea1⟩:=Jf Tryz.underlying3 c1
 obtain⟨b,rfl,_⟩:=Jf Tryz.underlying3 c2
 obtain⟨key,rfl,_⟩:=TO Tryz.underlying9 c3
 obtain⟨val,rfl,_⟩:=TO Tryz.underlying9 c4
 have hop:∀μ:Ah,AH μ (IX k a b key val) (.agg ⟨[.int .i64 k,.int .i64 a,.int .i64 b,.string key,.string val]⟩):=fun μ=>AH.CT.2 ⟨_,rfl,.cons (.int _ _) (.cons (.int _ _) (.cons (.int _ _) (.cons (.string _) (.cons (.string _) .nil))))⟩
 have hok:=Jt Tryz.underlying22 rfl (hval 1 22 v1 rfl rfl)
 have hcs:v1.cells.toList=[v1]:=by
  rcases Tl Tryz.underlying22 hok with rfl | ⟨_,_,_,_,rfl,_⟩<;>rfl
 obtain⟨fuel,ht⟩:=ht
 rw[hcs]at ht
 obtain⟨h0,h1⟩:=ZF e3
 obtain⟨μ,s1,s2,hrow⟩:=U6 (X:=NY) hL0 (n:=9) (by kernel_rfl) Tryz.underlying22 (k:=Cx) (by kernel_rfl) rfl hok ht
 rcases hrow with rfl | ⟨l,T,hl,_,s3,s4,hv⟩
 ·exact Lv (X:=NY) ((au Kb).FL _ _ hL0) (FY (by kernel_rfl) rfl) (n:=198) (N:=10) (by kernel_rfl) (s1.hole (.vec Cx [] true)) s2 (args:=[.int .u8 slots,.slice none 0 0,IX k a b key val,.int .u16 Be])
   (.cons (.int _ _) (.cons (.Bu _ _) (.cons (hop _) (.cons (.int _ _) .nil)))) (by simp) (cJ (So e0) (TD ea1) h0 h1) rfl
 ·exact Lv (X:=NY) ((au Kb).FL _ _ hL0) (FY (by kernel_rfl) rfl) (n:=198) (N:=10) (by kernel_rfl) s3 s4 (args:=[.int .u8 slots,.slice (some ⟨9,0,some 0⟩) l.length AF,IX k a b key val,.int .u16 Be])
   (.cons (.int _ _) (.cons hv (.cons (hop _) (.cons (.int _ _) .nil)))) (by simp) (cY l (fun y hy=>⟨RE (hl y hy).1,RE (hl y hy).2.1,RE (hl y hy).2.2⟩) (So e0) (TD ea1) h0 h1) rfl
end
end Go.AD
