/-
  Part of the proof: the machine that runs a program by fixed orders, and that each of its runs is a run of the model; or a run of it in parts. No conditions.
-/
import Derived.Test.YtbojbpalkegahaaGreatDoorIdNilq
import Derived.Test.YtbojbpalkegahaaGreatDoorC42b
import Derived.Test.YtbojbpalkegahaaGreatDoorProg
set_option maxRecDepth 1000000
namespace Go.AD
open Go.Proofs
theorem Zm (m:AB) (Q:Value→List (Option AJ)→Prop):bI XM Vb Ba [9,10,11,12,14,15,17] Q 1000 (st Ba 28 [p9] (BW ⟨.leaf,9⟩ (Mq m)))=(
 (List.length (AB.base m) < 1000000)∧(((.slice (some ⟨12,0,(some 0)⟩) (List.length (AB.AG m)) 18446744073709551616):Value)=(.slice (some ⟨12,0,(some 0)⟩) (List.length (AB.AG m)) 18446744073709551616))∧(((.pointer (some ⟨9,11,none⟩)):Value)=(.pointer (some ⟨9,11,none⟩)))∧(((.pointer (some ⟨9,0,none⟩)):Value)=(.pointer (some ⟨9,0,none⟩)))∧(((.pointer (some ⟨9,0,none⟩)):Value)=(.pointer (some ⟨9,0,none⟩)))∧(((.pointer (some ⟨11,0,none⟩)):Value)=(.pointer (some ⟨11,0,none⟩)))∧(((.pointer (some ⟨9,9,none⟩)):Value)=(.pointer (some ⟨9,9,none⟩)))∧(((.pointer (some ⟨9,0,none⟩)):Value)=(.pointer (some ⟨9,0,none⟩)))∧(((.pointer (some ⟨9,0,none⟩)):Value)=(.pointer (some ⟨9,0,none⟩)))∧(List.length (AB.now m) < 1000000)∧(((.slice (some ⟨12,0,(some 0)⟩) (List.length (AB.AG m)) 18446744073709551616):Value)=(.slice (some ⟨12,0,(some 0)⟩) (List.length (AB.AG m)) 18446744073709551616))∧(((.pointer (some ⟨9,11,none⟩)):Value)=(.pointer (some ⟨9,11,none⟩)))∧(((.pointer (some ⟨9,0,none⟩)):Value)=(.pointer (some ⟨9,0,none⟩)))∧(((.pointer (some ⟨9,0,none⟩)):Value)=(.pointer (some ⟨9,0,none⟩)))∧(bif Nat.blt 0 (List.length (AB.AG m))then(bif Nat.ble (0+List.length (AB.AG m)) (List.length (AB.AG m))then(bif Nat.beq (List.length (AB.AG m)) 0 then(Q (.pointer (some ⟨13,0,none⟩)) [some (.cells [(.int .i64 (List.getD (AB.cfg m) 0 0)),(.int .i64 (List.getD (AB.cfg m) 1 0)),(.int .i64 (List.getD (AB.cfg m) 2 0)),(.int .i64 (List.getD (AB.cfg m) 3 0)),(.int .i64 (List.getD (AB.cfg m) 4 0)),(.int .i64 (List.getD (AB.cfg m) 5 0)),(.int .i64 (List.getD (AB.cfg m) 6 0)),(.int .i64 (AB.AS m)),(.pointer (some ⟨10,0,none⟩)),(.pointer (some ⟨11,0,none⟩)),(.int .i64 (AB.cost m)),(.slice (some ⟨12,0,(some 0)⟩) (List.length (AB.AG m)) 18446744073709551616),(.pointer none),(.int .i64 (AB.state m)),(.bool (AB.AK m))] 0 false),some (.abs (AZ.pack (Pk.table (AB.base m))) false),some (.abs (AZ.pack (Pk.table (AB.now m))) false),some (.vec CW (AB.AG m) false),some (.abs (AZ.pack (Pk.table (AB.base m))) false),some (.abs (AZ.pack (Pk.table (AB.now m))) false),none,some (.cells [(.int .i64 (List.getD (AB.cfg m) 0 0)),(.int .i64 (List.getD (AB.cfg m) 1 0)),(.int .i64 (List.getD (AB.cfg m) 2 0)),(.int .i64 (List.getD (AB.cfg m) 3 0)),(.int .i64 (List.getD (AB.cfg m) 4 0)),(.int .i64 (List.getD (AB.cfg m) 5 0)),(.int .i64 (List.getD (AB.cfg m) 6 0)),(.int .i64 (AB.AS m)),(.pointer (some ⟨14,0,none⟩)),(.pointer (some ⟨15,0,none⟩)),(.int .i64 (AB.cost m)),(.slice (some ⟨16,0,none⟩) 0 0),(.pointer none),(.int .i64 (AB.state m)),(.bool (AB.AK m))] 0 false)])else(bif BO 40 (0+List.length (AB.AG m))then
 (Q (.pointer (some ⟨13,0,none⟩)) [some (.cells [(.int .i64 (List.getD (AB.cfg m) 0 0)),(.int .i64 (List.getD (AB.cfg m) 1 0)),(.int .i64 (List.getD (AB.cfg m) 2 0)),(.int .i64 (List.getD (AB.cfg m) 3 0)),(.int .i64 (List.getD (AB.cfg m) 4 0)),(.int .i64 (List.getD (AB.cfg m) 5 0)),(.int .i64 (List.getD (AB.cfg m) 6 0)),(.int .i64 (AB.AS m)),(.pointer (some ⟨10,0,none⟩)),(.pointer (some ⟨11,0,none⟩)),(.int .i64 (AB.cost m)),(.slice (some ⟨12,0,(some 0)⟩) (List.length (AB.AG m)) 18446744073709551616),(.pointer none),(.int .i64 (AB.state m)),(.bool (AB.AK m))] 0 false),some (.abs (AZ.pack (Pk.table (AB.base m))) false),some (.abs (AZ.pack (Pk.table (AB.now m))) false),some (.vec CW (AB.AG m) false),some (.abs (AZ.pack (Pk.table (AB.base m))) false),some (.abs (AZ.pack (Pk.table (AB.now m))) false),some (.vec CW ([]++List.take (List.length (AB.AG m)) (List.drop 0 (AB.AG m))) false),some (.cells [(.int .i64 (List.getD (AB.cfg m) 0 0)),(.int .i64 (List.getD (AB.cfg m) 1 0)),(.int .i64 (List.getD (AB.cfg m) 2 0)),(.int .i64 (List.getD (AB.cfg m) 3 0)),(.int .i64 (List.getD (AB.cfg m) 4 0)),(.int .i64 (List.getD (AB.cfg m) 5 0)),(.int .i64 (List.getD (AB.cfg m) 6 0)),(.int .i64 (AB.AS m)),(.pointer (some ⟨14,0,none⟩)),(.pointer (some ⟨15,0,none⟩)),(.int .i64 (AB.cost m)),(.slice (some ⟨17,0,(some 0)⟩) (0+List.length (AB.AG m)) 18446744073709551616),(.pointer none),(.int .i64 (AB.state m)),(.bool (AB.AK m))] 0 false)])else False))else False)else( (Q (.pointer (some ⟨13,0,none⟩)) [some (.cells [(.int .i64 (List.getD (AB.cfg m) 0 0)),(.int .i64 (List.getD (AB.cfg m) 1 0)),(.int .i64 (List.getD (AB.cfg m) 2 0)),(.int .i64 (List.getD (AB.cfg m) 3 0)),(.int .i64 (List.getD (AB.cfg m) 4 0)),(.int .i64 (List.getD (AB.cfg m) 5 0)),(.int .i64 (List.getD (AB.cfg m) 6 0)),(.int .i64 (AB.AS m)),(.pointer (some ⟨10,0,none⟩)),(.pointer (some ⟨11,0,none⟩)),(.int .i64 (AB.cost m)),(.slice (some ⟨12,0,(some 0)⟩) (List.length (AB.AG m)) 18446744073709551616),(.pointer none),(.int .i64 (AB.state m)),(.bool (AB.AK m))] 0 false),some (.abs (AZ.pack (Pk.table (AB.base m))) false),some (.abs (AZ.pack (Pk.table (AB.now m))) false),some (.vec CW (AB.AG m) false),some (.abs (AZ.pack (Pk.table (AB.base m))) false),some (.abs (AZ.pack (Pk.table (AB.now m))) false),none,some (.cells [(.int .i64 (List.getD (AB.cfg m) 0 0)),(.int .i64 (List.getD (AB.cfg m) 1 0)),(.int .i64 (List.getD (AB.cfg m) 2 0)),(.int .i64 (List.getD (AB.cfg m) 3 0)),(.int .i64 (List.getD (AB.cfg m) 4 0)),(.int .i64 (List.getD (AB.cfg m) 5 0)),(.int .i64 (List.getD (AB.cfg m) 6 0)),(.int .i64 (AB.AS m)),(.pointer (some ⟨14,0,none⟩)),(.pointer (some ⟨15,0,none⟩)),(.int .i64 (AB.cost m)),(.slice none 0 0),(.pointer none),(.int .i64 (AB.state m)),(.bool (AB.AK m))] 0 false)]))∧(bif Nat.ble (0+List.length (AB.AG m)) (List.length (AB.AG m))then(bif Nat.beq (List.length (AB.AG m)) 0 then
 (Q (.pointer (some ⟨13,0,none⟩)) [some (.cells [(.int .i64 (List.getD (AB.cfg m) 0 0)),(.int .i64 (List.getD (AB.cfg m) 1 0)),(.int .i64 (List.getD (AB.cfg m) 2 0)),(.int .i64 (List.getD (AB.cfg m) 3 0)),(.int .i64 (List.getD (AB.cfg m) 4 0)),(.int .i64 (List.getD (AB.cfg m) 5 0)),(.int .i64 (List.getD (AB.cfg m) 6 0)),(.int .i64 (AB.AS m)),(.pointer (some ⟨10,0,none⟩)),(.pointer (some ⟨11,0,none⟩)),(.int .i64 (AB.cost m)),(.slice (some ⟨12,0,(some 0)⟩) (List.length (AB.AG m)) 18446744073709551616),(.pointer none),(.int .i64 (AB.state m)),(.bool (AB.AK m))] 0 false),some (.abs (AZ.pack (Pk.table (AB.base m))) false),some (.abs (AZ.pack (Pk.table (AB.now m))) false),some (.vec CW (AB.AG m) false),some (.abs (AZ.pack (Pk.table (AB.base m))) false),some (.abs (AZ.pack (Pk.table (AB.now m))) false),none,some (.cells [(.int .i64 (List.getD (AB.cfg m) 0 0)),(.int .i64 (List.getD (AB.cfg m) 1 0)),(.int .i64 (List.getD (AB.cfg m) 2 0)),(.int .i64 (List.getD (AB.cfg m) 3 0)),(.int .i64 (List.getD (AB.cfg m) 4 0)),(.int .i64 (List.getD (AB.cfg m) 5 0)),(.int .i64 (List.getD (AB.cfg m) 6 0)),(.int .i64 (AB.AS m)),(.pointer (some ⟨14,0,none⟩)),(.pointer (some ⟨15,0,none⟩)),(.int .i64 (AB.cost m)),(.slice (some ⟨16,0,none⟩) 0 0),(.pointer none),(.int .i64 (AB.state m)),(.bool (AB.AK m))] 0 false)])else(bif BO 40 (0+List.length (AB.AG m))then(Q (.pointer (some ⟨13,0,none⟩)) [some (.cells [(.int .i64 (List.getD (AB.cfg m) 0 0)),(.int .i64 (List.getD (AB.cfg m) 1 0)),(.int .i64 (List.getD (AB.cfg m) 2 0)),(.int .i64 (List.getD (AB.cfg m) 3 0)),(.int .i64 (List.getD (AB.cfg m) 4 0)),(.int .i64 (List.getD (AB.cfg m) 5 0)),(.int .i64 (List.getD (AB.cfg m) 6 0)),(.int .i64 (AB.AS m)),(.pointer (some ⟨10,0,none⟩)),(.pointer (some ⟨11,0,none⟩)),(.int .i64 (AB.cost m)),(.slice (some ⟨12,0,(some 0)⟩) (List.length (AB.AG m)) 18446744073709551616),(.pointer none),(.int .i64 (AB.state m)),(.bool (AB.AK m))] 0 false),some (.abs (AZ.pack (Pk.table (AB.base m))) false),some (.abs (AZ.pack (Pk.table (AB.now m))) false),some (.vec CW (AB.AG m) false),some (.abs (AZ.pack (Pk.table (AB.base m))) false),some (.abs (AZ.pack (Pk.table (AB.now m))) false),some (.vec CW ([]++List.take (List.length (AB.AG m)) (List.drop 0 (AB.AG m))) false),some (.cells [(.int .i64 (List.getD (AB.cfg m) 0 0)),(.int .i64 (List.getD (AB.cfg m) 1 0)),(.int .i64 (List.getD (AB.cfg m) 2 0)),(.int .i64 (List.getD (AB.cfg m) 3 0)),(.int .i64 (List.getD (AB.cfg m) 4 0)),(.int .i64 (List.getD (AB.cfg m) 5 0)),(.int .i64 (List.getD (AB.cfg m) 6 0)),(.int .i64 (AB.AS m)),(.pointer (some ⟨14,0,none⟩)),(.pointer (some ⟨15,0,none⟩)),(.int .i64 (AB.cost m)),(.slice (some ⟨17,0,(some 0)⟩) (0+List.length (AB.AG m)) 18446744073709551616),(.pointer none),(.int .i64 (AB.state m)),(.bool (AB.AK m))] 0 false)])else False))else False))):=by kernel_rfl
end Go.AD

set_option maxRecDepth 1000000
namespace Go.AD
open Go.Proofs
theorem CB.trans {D:Nat→Prop} {v:Value} {H H2 H3:AA} (h:CB D v H H2) (h2:CB D v H2 H3):CB D v H H3:=by
 induction h with
 | refl H=>exact h2
 | step s objs bs rs hr hne hlen hnd hrs hreach hobj hroot k ih=>exact .step s objs bs rs hr hne hlen hnd hrs hreach hobj hroot (ih h2)
structure QM (r b n x:Nat) (H:AA) (m:AB):Prop where
 nd:(r::[b,n,x]).Nodup
 gr:H.get r=some (.cells (BV m b n (.slice (some ⟨x,0,some 0⟩) m.AG.length AF)) 0 false)
 gb:H.get b=some (DP m.base)
 gn:H.get n=some (DP m.now)
 gx:H.get x=some (.vec CW m.AG false)
theorem RR {D:Nat→Prop} {v:Value} {H:AA} {m:AB} {r b n x:Nat} (hD:r∈Af 4 v∨D r) (h:QM r b n x H m):
 ∃H2,CB D v H H2∧H2.get r=some (.abs (.pack (.model m)) false)∧∀y,y∉r::[b,n,x]→H2.get y=H.get y:=by
 have hk:=CY (s:= .model m) (H:=H) h.nd
 refine⟨DU (.model m) (r::[b,n,x]) H,Pz (s:= .model m) (ns:=[b,n,x]) (.model m) hD rfl h.nd h.gr rfl rfl rfl ?_ ?_ (Nat.le_of_ble_eq_true rfl) ?_ (.refl _),hk.root r rfl,fun y hy=>hk.DN y hy⟩
 ·intro y hy;exact hy
 ·intro y hy;exact hy
 ·intro i y p hy hp
  cases i with
  | zero=>cases hy;cases hp;exact⟨_,h.gb,rfl,rfl,rfl,rfl⟩
  | succ i=>cases i with
   | zero=>cases hy;cases hp;exact⟨_,h.gn,rfl,rfl,rfl,rfl⟩
   | succ i=>cases i with
    | zero=>cases hy;cases hp;exact⟨_,h.gx,rfl,rfl,rfl,rfl⟩
    | succ i=>cases i<;>cases hy
theorem S9 {X:Ctx} {D:Nat→Prop} {f:FuncId} {Q:Value→AA→Prop} {n:Nat} {m:AB} {rest:List Value} (hD:D 9) (hN:A4 X 10 D f Q (st f n (p9::rest) (BW ⟨.leaf,9⟩ (Mq m)))):A4 X 10 D f Q (st f n (p9::rest) (Mf m)):=by
 refine A4.opened (b:=9) (s:= .model m) (ro:=false) hD (by rfl) (fun ops p k h=>by cases h) fun objs hr=>?_
 cases hr with
 | model=>
  have hN:A4 X 10 D f Q (st f n (p9::rest) (EI ((Mf m).put 9 (PJ m (.slice (some ⟨12,0,some 0⟩) m.AG.length AF))) [.abs (.pack (.table m.base)) false,.abs (.pack (.table m.now)) false,.vec CW m.AG false])):=by
   rw[NH];exact hN
  refine⟨_,KI (H:=Mf m) (b:=9) (ro:=false) (o1:=PJ m (.slice (some ⟨12,0,some 0⟩) m.AG.length AF)) (ps1:=[.abs (.pack (.table m.base)) false,.abs (.pack (.table m.now)) false,.vec CW m.AG false]) (show 9 < 10 by decide) (Px m) rfl rfl (fun i p hp=>?_),hN⟩
  cases i with
  | zero=>cases hp;exact⟨_,rfl,rfl⟩
  | succ i=>cases i with
   | zero=>cases hp;exact⟨_,rfl,rfl⟩
   | succ i=>cases i with
    | zero=>cases hp;exact⟨_,rfl,rfl⟩
    | succ i=>cases i<;>cases hp
inductive eA (m:AB):Value→List (Option AJ)→Prop where
 | row:eA m (.pointer (some ⟨13,0,none⟩)) [some (.cells (BV m 10 11 (.slice (some ⟨12,0,some 0⟩) m.AG.length 18446744073709551616)) 0 false),some (DP m.base),some (DP m.now),some (.vec CW m.AG false),some (DP m.base),some (DP m.now),some (.vec CW m.AG false),
  some (.cells (BV m 14 15 (.slice (some ⟨17,0,some 0⟩) m.AG.length 18446744073709551616)) 0 false)]
 | zero (x:Value) (o:Option AJ) (hx:∀ν:Ah,NoRoom ν x) (hu:m.AG=[]):eA m (.pointer (some ⟨13,0,none⟩)) [some (.cells (BV m 10 11 (.slice (some ⟨12,0,some 0⟩) m.AG.length 18446744073709551616)) 0 false),some (DP m.base),some (DP m.now),some (.vec CW m.AG false),some (DP m.base),some (DP m.now),o,
  some (.cells (BV m 14 15 x) 0 false)]
noncomputable def O0 (args:List Value) (objs:List AJ):GT:=
 match args,objs with
 | [.pointer (some ⟨9,0,none⟩)],[.abs (.pack (.model m)) _]=> .ask (m.base.length < 1000000∧m.now.length < 1000000∧m.AG.length < 1000000) (.ret ⟨.pointer (some ⟨10,0,none⟩),[some (.abs (.pack (.model m)) false)],[.abs (.pack (.model m)) false]⟩)
 | _,_=> .fail
theorem T6:Da Tryz.prog AL Ba (A3 AL 9 [true] O0):=by
 refine Bs allM (by kernel_rfl) (n:=28) (by kernel_rfl) (by kernel_rfl) fun argsc objs x hx hro=>?_
 unfold O0 at hx
 split at hx
 ·rename_i m ro
  simp only[GT.run]at hx
  split at hx
  ·rename_i hok
   obtain⟨h1,h2,h3⟩:=hok
   cases hx
   have hr0:ro=false:=hro 0 _ rfl rfl
   subst hr0
   refine⟨by simp,?_⟩
   show A4 XM 10 (fun b=>9≤b∧b < 10) Ba _ (st Ba 28 [p9] (Mf m))
   refine A4.shut (S9 (rest:=[]) (Q:=fun v H=>v= .pointer (some ⟨13,0,none⟩)∧QM 9 10 11 12 H m∧∃z,QM 13 14 15 z H m∧16 < z) ⟨Nat.le_refl 9,Nat.lt_succ_self 9⟩ ?_) ?_
   ·have hE:As XM 10 Ba (fun v H=>eA m v (([9,10,11,12,14,15,17]++Af 4 v).map H.get)) (st Ba 28 [p9] (BW ⟨.leaf,9⟩ (Mq m))):=by
     refine B8.Gq (dH Hs (ids:=[9,10,11,12,14,15,17]) (Q:=eA m) 1000 _ ?_)
     rw[Zm]
     have hb:BO 40 (0+m.AG.length)=true:=by
      unfold BO
      rw[Nat.ble_eq_true_of_le (by omega),Nat.ble_eq_true_of_le (by omega)];rfl
     have hle:Nat.ble (0+m.AG.length) m.AG.length=true:=Nat.ble_eq_true_of_le (by omega)
     have h0:Nat.blt 0 m.AG.length=false→m.AG=[]:=fun h=>by
      cases hq:m.AG with
      | nil=>rfl
      | cons a l=>rw[hq]at h;cases h
     have h00:Nat.beq m.AG.length 0=true→m.AG=[]:=fun h=>List.eq_nil_of_length_eq_zero (Nat.eq_of_beq_eq_true h)
     have hrow:eA m (.pointer (some ⟨13,0,none⟩)) [some (.cells (BV m 10 11 (.slice (some ⟨12,0,some 0⟩) m.AG.length 18446744073709551616)) 0 false),some (DP m.base),some (DP m.now),some (.vec CW m.AG false),some (DP m.base),some (DP m.now),some (.vec CW ([]++List.take (List.length (AB.AG m)) (List.drop 0 (AB.AG m))) false),
      some (.cells (BV m 14 15 (.slice (some ⟨17,0,some 0⟩) (0+m.AG.length) 18446744073709551616)) 0 false)]:=by
      rw[List.drop_zero,List.take_length,Nat.zero_add]
      exact .row
     repeat' first
      | exact hrow
      | exact .zero _ _ (fun _=>Q6) (h00 (by assumption))
      | exact .zero _ _ (fun _=>HI) (h0 (by assumption))
      | refine And.intro (by first | exact rfl | exact h1 | exact h2) ?_
      | refine AE hle ?_
      | refine AE hb ?_
      | refine Az (fun _=>?_) (fun _=>?_)
      | refine And.intro ?_ ?_
    refine hE.Ko.tell ?_
    intro v H h
    generalize hos:([9,10,11,12,14,15,17]++Af 4 v).map H.get=os at h
    cases h with
    | row=>
     have h:[H.get 9,H.get 10,H.get 11,H.get 12,H.get 14,H.get 15,H.get 17,H.get 13]=_:=hos
     simp only[List.cons.injEq,and_true]at h
     obtain⟨g9,g10,g11,g12,g14,g15,g17,g13⟩:=h
     exact⟨_,H,fun base W0 μ W v' _ hv hH=>⟨μ,Ah.le_refl _,hH,hv⟩,rfl,⟨by decide,by rw[g9,E4],g10,g11,g12⟩,17,⟨by decide,by rw[g13,E4],g14,g15,g17⟩,by decide⟩
    | zero x o hx hu=>
     have h:[H.get 9,H.get 10,H.get 11,H.get 12,H.get 14,H.get 15,H.get 17,H.get 13]=_:=hos
     simp only[List.cons.injEq,and_true]at h
     obtain⟨g9,g10,g11,g12,g14,g15,_,g13⟩:=h
     obtain⟨v2,H2,j1,rfl,⟨z,z1,z2,z3,z4⟩,j3⟩:=P0 (D:=fun b=>9≤b∧b < 10) (v:= .pointer (some ⟨13,0,none⟩)) hx hu (r:=13) (b:=14) (n:=15) (by decide) (by decide) (by decide) (by decide) (by decide) (by decide) g13 g14 g15 ⟨9,Nat.le_refl 9,Nat.lt_succ_self 9⟩
     refine⟨_,H2,j1,rfl,⟨by decide,?_,?_,?_,?_⟩,z,⟨z2,z3,?_,?_,z4⟩,by omega⟩
     ·rw[j3 9 (by decide) (by decide),g9,E4]
     ·rw[j3 10 (by decide) (by decide)];exact g10
     ·rw[j3 11 (by decide) (by decide)];exact g11
     ·rw[j3 12 (by decide) (by decide)];exact g12
     ·rw[j3 14 (by decide) (by decide)];exact g14
     ·rw[j3 15 (by decide) (by decide)];exact g15
   ·rintro v H ⟨rfl,ha,z,hb,hz⟩
    obtain⟨H2,k1,k2,k3⟩:=RR (D:=fun b=>9≤b∧b < 9+1) (v:= .pointer (some ⟨13,0,none⟩)) (.inr ⟨Nat.le_refl 9,Nat.lt_succ_self 9⟩) ha
    have hb2:QM 13 14 15 z H2 m:=⟨hb.nd,by rw[k3 13 (by decide)];exact hb.gr,by rw[k3 14 (by decide)];exact hb.gb,by rw[k3 15 (by decide)];exact hb.gn,by rw[k3 z (by simp only[List.mem_cons,List.not_mem_nil,not_or,not_false_eq_true,and_true];omega)];exact hb.gx⟩
    obtain⟨H3,j1,j2,j3⟩:=RR (D:=fun b=>9≤b∧b < 9+1) (v:= .pointer (some ⟨13,0,none⟩)) (.inl (by decide)) hb2
    refine⟨H3,k1.trans j1,[13],by simp,fun c hc=>by simp at hc;subst hc;exact Nat.le_of_ble_eq_true rfl,rfl,rfl,fun j c p hj hp=>?_,fun j o hj hm ho=>?_⟩
    ·cases j with
     | zero=>cases hj;cases hp;exact⟨_,rfl,j2⟩
     | succ j=>cases j<;>cases hj
    ·cases j with
     | zero=>cases ho;exact⟨_,rfl,by rw[j3 9 (by simp only[List.mem_cons,List.not_mem_nil,not_or,not_false_eq_true,and_true];omega)];exact k2⟩
     | succ j=>exact absurd hj (by show ¬(j+1 < 1);omega)
  ·cases hx
 ·cases hx
end Go.AD

set_option maxRecDepth 1000000
namespace Go.AD
open Go.Proofs
abbrev kS:EK:=[.str]
noncomputable def L4 (n:Nat):Value:= .slice (some ⟨9,0,some 0⟩) n AF
noncomputable def hR (l:List (EK.C Ab)):AA:=BW ⟨.leaf,9⟩ [.vec Ab l true]
noncomputable def Nk (l:List (EK.C Ab)) (s i:Int):Ay:=
 ⟨⟨Am,Ib [(0,L4 l.length),(3,.int .i64 s),(4,.int .i64 i)],25,[.code (Bb Tryz.prog Am [1,1,0,1,0,0]),.inLoop (Bb Tryz.prog Am [1,1,0,1,0,0]),.inBlock 0,.code (Bb Tryz.prog Am [1,1,1])],[],false,.normal,none⟩,[],hR l⟩
def P8:Stop:=⟨Am,0,3,10,[9],[0,3,4]⟩
theorem WD (l:List (EK.C Ab)) (Q:Value→List (Option AJ)→Prop) (R:Ay→Prop):JI X0 Cv Am [] P8 Q R 100 (st Am 25 [L4 l.length] (hR l))=(
 (R (Nk l 0 0))):=by kernel_rfl
theorem Sp (l:List (EK.C Ab)) (s i:Int) (Q:Value→List (Option AJ)→Prop) (R:Ay→Prop):JI X0 Cv Am [] P8 Q R 200 (Nk l s i)=(
 (bif decide (i < Int.ofNat (List.length l))then(bif decide (0≤i)&&Nat.blt (Int.toNat i) (List.length l)then(bif Nat.blt (0+Int.toNat i) (List.length l)then(bif decide (0≤i)&&Nat.blt (Int.toNat i) (List.length l)then(bif Nat.blt (0+Int.toNat i) (List.length l)then(((.int .i64 s):Value)=(.int .i64 s))∧(R (Nk l (IntKind.wrap .i64 (s+IntKind.wrap .i64 (IntKind.wrap .i64 (16+Int.ofNat (ByteArray.size (Prod.fst (List.getD l (0+Int.toNat i) (EK.AQ Ab)))))+Int.ofNat (ByteArray.size (Prod.snd (List.getD l (0+Int.toNat i) (EK.AQ Ab))))))) (IntKind.wrap .i64 (i+1))))else False)else False)else False)else False)else(Q (.int .i64 s) []))):=by kernel_rfl
noncomputable def KM (l:List (EK.C Ab)) (key:ByteArray) (i:Int):Ay:=
 ⟨⟨Ao,Ib [(0,L4 l.length),(1,.string key),(6,.int .i64 i)],25,[.code (Bb Tryz.prog Ao [1,0,1,0,0]),.inLoop (Bb Tryz.prog Ao [1,0,1,0,0]),.inBlock 0,.code (Bb Tryz.prog Ao [1,1])],[],false,.normal,none⟩,[],hR l⟩
def MI:Stop:=⟨Ao,0,3,10,[9],[0,1,6]⟩
theorem U4 (l:List (EK.C Ab)) (key:ByteArray) (Q:Value→List (Option AJ)→Prop) (R:Ay→Prop):JI X0 Cv Ao [] MI Q R 100 (st Ao 25 [L4 l.length,.string key] (hR l))=(
 (R (KM l key 0))):=by kernel_rfl
theorem QN (l:List (EK.C Ab)) (key:ByteArray) (i:Int) (Q:Value→List (Option AJ)→Prop) (R:Ay→Prop):JI X0 Cv Ao [] MI Q R 200 (KM l key i)=(
 (bif decide (i < Int.ofNat (List.length l))then(bif decide (0≤i)&&Nat.blt (Int.toNat i) (List.length l)then(bif Nat.blt (0+Int.toNat i) (List.length l)then(bif ByteArray.toList (Prod.fst (List.getD l (0+Int.toNat i) (EK.AQ Ab)))==ByteArray.toList key then(bif decide (0≤i)&&Nat.blt (Int.toNat i) (List.length l)then(bif Nat.blt (0+Int.toNat i) (List.length l)then(Q (.tuple ⟨[(.string (Prod.snd (List.getD l (0+Int.toNat i) (EK.AQ Ab)))),(.bool true)]⟩) [])else False)else False)else(R (KM l key (IntKind.wrap .i64 (i+1)))))else False)else False)else(Q (.tuple ⟨[(.string ({ data:=#[] })),(.bool false)]⟩) []))):=by kernel_rfl
noncomputable def fh (l m:List (EK.C kS)):AA:=BW ⟨.leaf,9⟩ [.vec kS l true,.vec kS m true]
noncomputable def NT (l m:List (EK.C kS)) (i:Int):Ay:=
 ⟨⟨Ai,Ib [(0,L4 l.length),(1,.slice (some ⟨10,0,some 0⟩) m.length AF),(5,.int .i64 i)],26,[.code (Bb Tryz.prog Ai [1,1,0,1,0,0]),.inLoop (Bb Tryz.prog Ai [1,1,0,1,0,0]),.inBlock 0,.code (Bb Tryz.prog Ai [1,1,1])],[],false,.normal,none⟩,[],fh l m⟩
def Qs:Stop:=⟨Ai,0,3,11,[9,10],[0,1,5]⟩
theorem Wy (l m:List (EK.C kS)) (Q:Value→List (Option AJ)→Prop) (R:Ay→Prop):JI X0 Cv Ai [] Qs Q R 100 (st Ai 26 [L4 l.length,.slice (some ⟨10,0,some 0⟩) m.length AF] (fh l m))=(
 (bif Int.ofNat (List.length l) != Int.ofNat (List.length m)then(Q (.bool false) [])else(R (NT l m 0)))):=by kernel_rfl
theorem Ss (l m:List (EK.C kS)) (i:Int) (Q:Value→List (Option AJ)→Prop) (R:Ay→Prop):JI X0 Cv Ai [] Qs Q R 200 (NT l m i)=(
 (bif decide (i < Int.ofNat (List.length l))then(bif decide (0≤i)&&Nat.blt (Int.toNat i) (List.length l)then(bif Nat.blt (0+Int.toNat i) (List.length l)then(bif decide (0≤i)&&Nat.blt (Int.toNat i) (List.length m)then(bif Nat.blt (0+Int.toNat i) (List.length m)then(bif !ByteArray.toList (List.getD l (0+Int.toNat i) (EK.AQ kS))==ByteArray.toList (List.getD m (0+Int.toNat i) (EK.AQ kS))then(Q (.bool false) [])else(R (NT l m (IntKind.wrap .i64 (i+1)))))else False)else False)else False)else False)else(Q (.bool true) []))):=by kernel_rfl
noncomputable def Wv (l:List (EK.C Ab)) (x y:Value) (i:Int) (H:AA→AA):Ay:=
 ⟨⟨Ap,Ib [(0,L4 l.length),(4,x),(5,y),(6,.int .i64 i)],31,[.code (Bb Tryz.prog Ap [1,1,0,1,0,0]),.inLoop (Bb Tryz.prog Ap [1,1,0,1,0,0]),.inBlock 0,.code (Bb Tryz.prog Ap [1,1,1])],[],false,.normal,none⟩,[],H (hR l)⟩
noncomputable def Wd (l:List (EK.C Ab)):Ay:=Wv l (.slice none 0 0) (.slice none 0 0) 0 id
noncomputable def N1 (l:List (EK.C Ab)) (ks vs:List (EK.C kS)) (x y:Value) (i:Int):Ay:=Wv l x y i fun H=>(H.alloc (.vec kS ks false)).alloc (.vec kS vs false)
def Mh:Stop:=⟨Ap,0,3,10,[9],[0,4,5,6]⟩
noncomputable def Fu (b n:Nat):Value:= .slice (some ⟨b,0,some 0⟩) n AF
theorem UC (l:List (EK.C Ab)) (Q:Value→List (Option AJ)→Prop) (R:Ay→Prop):JI X0 Cv Ap [] Mh Q R 100 (st Ap 31 [L4 l.length] (hR l))=(
 (R (Wd l))):=by kernel_rfl
theorem QF (l:List (EK.C Ab)) (ks vs:List (EK.C kS)) (n m:Nat) (i:Int) (Q:Value→List (Option AJ)→Prop) (R:Ay→Prop):JI X0 Cv Ap [] Mh Q R 200 (N1 l ks vs (Fu 10 n) (Fu 11 m) i)=(
 (bif decide (i < Int.ofNat (List.length l))then(bif decide (0≤i)&&Nat.blt (Int.toNat i) (List.length l)then(bif Nat.blt (0+Int.toNat i) (List.length l)then(bif true&&Nat.ble (0+n) (List.length ks)&&BO 16 (n+1)then(bif decide (0≤i)&&Nat.blt (Int.toNat i) (List.length l)then(bif Nat.blt (0+Int.toNat i) (List.length l)then(bif true&&Nat.ble (0+m) (List.length vs)&&BO 16 (m+1)then(R (N1 l (List.take n (List.drop 0 ks)++[Prod.fst (List.getD l (0+Int.toNat i) (EK.AQ Ab))]) (List.take m (List.drop 0 vs)++[Prod.snd (List.getD l (0+Int.toNat i) (EK.AQ Ab))]) (.slice (some ⟨10,0,(some 0)⟩) (n+1) 18446744073709551616) (.slice (some ⟨11,0,(some 0)⟩) (m+1) 18446744073709551616) (IntKind.wrap .i64 (i+1))))else False)else False)else False)else False)else False)else False)else(Q (.tuple ⟨[(.slice (some ⟨10,0,(some 0)⟩) n 18446744073709551616),(.slice (some ⟨11,0,(some 0)⟩) m 18446744073709551616)]⟩) [some (.vec kS ks false),some (.vec kS vs false)]))):=by kernel_rfl
noncomputable def ZN (k a b:Int) (key val:ByteArray):AJ:= .cells [.int .i64 k,.int .i64 a,.int .i64 b,.string key,.string val] 0 false
def ao (bl:Nat):List Nat:=match bl with
 | 0=>[1,1,0,1,0,0]
 | _=>[1,1,1,1,0,1,0,0]
def eM (bl:Nat):List Nat:=match bl with
 | 0=>[1,1,1]
 | _=>[1,1,1,1,1]
noncomputable def bB (bl:Nat) (l:List (EK.C Ab)) (x i j:Value) (H:AA):Ay:=
 ⟨⟨Al,Ib [(0,L4 l.length),(3,.pointer (some ⟨10,0,none⟩)),(5,x),(6,i),(7,j)],62,[.code (Bb Tryz.prog Al (ao bl)),.inLoop (Bb Tryz.prog Al (ao bl)),.inBlock bl,.code (Bb Tryz.prog Al (eM bl))],[],false,.normal,none⟩,[],H⟩
noncomputable def bQ (bl:Nat) (l:List (EK.C Ab)) (k a b:Int) (key val:ByteArray) (x i j:Value):Ay:=bB bl l x i j ((hR l).alloc (ZN k a b key val))
noncomputable def Ge (bl:Nat) (l:List (EK.C Ab)) (k a b:Int) (key val:ByteArray) (out:List (EK.C Ab)) (x i j:Value):Ay:=bB bl l x i j (((hR l).alloc (ZN k a b key val)).alloc (.vec Ab out false))
def KV:Stop:=⟨Al,0,3,10,[9],[0,3,5,6,7]⟩
theorem XB (l:List (EK.C Ab)) (k a b:Int) (key val:ByteArray) (Q:Value→List (Option AJ)→Prop) (R:Ay→Prop):JI X0 Cv Al [] KV Q R 100 (st Al 62 [L4 l.length,IX k a b key val] (hR l))=(
 (R (bQ 0 l k a b key val (.slice none 0 0) (.int .i64 0) A5))):=by kernel_rfl
theorem Pt (l:List (EK.C Ab)) (k a b:Int) (key val:ByteArray) (out:List (EK.C Ab)) (n:Nat) (i:Int) (Q:Value→List (Option AJ)→Prop) (R:Ay→Prop):JI X0 Cv Al [] KV Q R 200 (Ge 0 l k a b key val out (Fu 11 n) (.int .i64 i) A5)=(
 (bif decide (i < Int.ofNat (List.length l))then(bif decide (0≤i)&&Nat.blt (Int.toNat i) (List.length l)then(bif Nat.blt (0+Int.toNat i) (List.length l)then(bif Op.bytesLess (ByteArray.toList (Prod.fst (List.getD l (0+Int.toNat i) (EK.AQ Ab)))) (ByteArray.toList key)then(bif decide (0≤i)&&Nat.blt (Int.toNat i) (List.length l)then(bif Nat.blt (0+Int.toNat i) (List.length l)then(bif true&&Nat.ble (0+n) (List.length out)&&BO 32 (n+1)then(R (Ge 0 l k a b key val (List.take n (List.drop 0 out)++[(Prod.fst (List.getD l (0+Int.toNat i) (EK.AQ Ab)),Prod.snd (List.getD l (0+Int.toNat i) (EK.AQ Ab)))]) (.slice (some ⟨11,0,(some 0)⟩) (n+1) 18446744073709551616) (.int .i64 (IntKind.wrap .i64 (i+1))) A5))else False)else False)else False)else(R (Ge 0 l k a b key val out (.slice (some ⟨11,0,(some 0)⟩) n 18446744073709551616) (.int .i64 (IntKind.wrap .i64 (i+1))) A5)))else False)else False)else(bif k==1 then(bif true&&Nat.ble (0+n) (List.length out)&&BO 32 (n+1)then(R (Ge 2 l k a b key val (List.take n (List.drop 0 out)++[(key,val)]) (.slice (some ⟨11,0,(some 0)⟩) (n+1) 18446744073709551616) (.int .i64 i) (.int .i64 0)))else False)else(R (Ge 2 l k a b key val out (.slice (some ⟨11,0,(some 0)⟩) n 18446744073709551616) (.int .i64 i) (.int .i64 0)))))):=by kernel_rfl
theorem QB (l:List (EK.C Ab)) (k a b:Int) (key val:ByteArray) (out:List (EK.C Ab)) (n:Nat) (i i6:Int) (Q:Value→List (Option AJ)→Prop) (R:Ay→Prop):JI X0 Cv Al [] KV Q R 200 (Ge 2 l k a b key val out (Fu 11 n) (.int .i64 i6) (.int .i64 i))=(
 (bif decide (i < Int.ofNat (List.length l))then(bif decide (0≤i)&&Nat.blt (Int.toNat i) (List.length l)then(bif Nat.blt (0+Int.toNat i) (List.length l)then(bif !(Op.bytesLess (ByteArray.toList (Prod.fst (List.getD l (0+Int.toNat i) (EK.AQ Ab)))) (ByteArray.toList key)||ByteArray.toList (Prod.fst (List.getD l (0+Int.toNat i) (EK.AQ Ab)))==ByteArray.toList key)then(bif decide (0≤i)&&Nat.blt (Int.toNat i) (List.length l)then(bif Nat.blt (0+Int.toNat i) (List.length l)then(bif true&&Nat.ble (0+n) (List.length out)&&BO 32 (n+1)then(R (Ge 2 l k a b key val (List.take n (List.drop 0 out)++[(Prod.fst (List.getD l (0+Int.toNat i) (EK.AQ Ab)),Prod.snd (List.getD l (0+Int.toNat i) (EK.AQ Ab)))]) (.slice (some ⟨11,0,(some 0)⟩) (n+1) 18446744073709551616) (.int .i64 i6) (.int .i64 (IntKind.wrap .i64 (i+1)))))else False)else False)else False)else(R (Ge 2 l k a b key val out (.slice (some ⟨11,0,(some 0)⟩) n 18446744073709551616) (.int .i64 i6) (.int .i64 (IntKind.wrap .i64 (i+1))))))else False)else False)else(Q (.slice (some ⟨11,0,(some 0)⟩) n 18446744073709551616) [some (.vec Ab out false)]))):=by kernel_rfl
end Go.AD

set_option maxRecDepth 1000000
namespace Go.AD
open Go.Proofs
def Cd (x:EK.C Ab):Int:=16+x.1.size+x.2.size
def BF (l:List (EK.C Ab)):Int:=(l.map Cd).sum
def Gz (l:List (EK.C Ab)):Prop:=l.length < 1000000∧∀x∈l,x.1.size < 1000000∧x.2.size < 1000000
theorem JT {x:Int} (h1:0≤x) (h2:x < 9223372036854775808):IntKind.wrap .i64 x=x:=wrap64 (by omega) (by omega)
theorem Lo:∀(l:List (EK.C Ab)),(∀x∈l,x.1.size < 1000000∧x.2.size < 1000000)→0≤BF l∧BF l≤2000016 * l.length
 | [],_=>by simp[BF]
 | x::l,h=>by
  have h1:=Lo l (fun y hy=>h y (by simp[hy]))
  have h2:=h x (by simp)
  have e:BF (x::l)=Cd x+BF l:=by simp[BF]
  rw[e]
  simp only[List.length_cons,Cd]
  omega
theorem D9 {i:Nat} (h:i < 4611686018427387904):IntKind.wrap .i64 ((i:Int)+1)=((i+1:Nat):Int):=by
 rw[wrap64 (by omega) (by omega)];rfl
theorem Tf (l:List (EK.C Ab)) (hs:Gz l):∀(m i:Nat),l.length - i=m→i≤l.length→As X0 10 Am (fun v _=>v= .int .i64 (BF l)) (Nk l (BF (l.take i)) i):=by
 intro m
 induction m with
 | zero=>
  intro i hm hi
  refine Bd (Av X0) (ids:=[]) (S:=P8) rfl (Q:=fun v _=>v= .int .i64 (BF l)) (R:=fun _=>False) (fun v H h=>h) (fun c h=>h.elim) 200 _ ?_
  rw[Sp]
  refine AT (fun h=>?_) (fun _=>?_)
  ·exfalso;have:(i:Int) < l.length:=h;omega
  ·show Value.int .i64 _=_
   rw[show l.take i=l from List.take_of_length_le (by omega)]
 | succ m ih=>
  intro i hm hi
  have hlt:i < l.length:=by omega
  refine Bd (Av X0) (ids:=[]) (S:=P8) rfl (Q:=fun v _=>v= .int .i64 (BF l)) (R:=fun c=>c=Nk l (BF (l.take (i+1))) (i+1:Nat)) (fun v H h=>h) (fun c h=>by rw[h];exact ih (i+1) (by omega) (by omega)) 200 _ ?_
  rw[Sp]
  refine AT (fun h=>?_) (fun h=>absurd (show(i:Int) < Int.ofNat l.length by simpa using hlt) h)
  refine AE (ca hlt) (AE (cb hlt) (AE (ca hlt) (AE (cb hlt) ⟨rfl,?_⟩)))
  have hx:l.take (i+1)=l.take i++[l[i]]:=by rw[List.take_succ_eq_append_getElem hlt]
  have hc:BF (l.take (i+1))=BF (l.take i)+Cd l[i]:=by rw[hx];unfold BF;rw[List.map_append,List.sum_append];simp
  have hb1:=Lo (l.take i) (fun y hy=>hs.2 y (List.mem_of_mem_take hy))
  have hb2:=hs.2 l[i] (List.getElem_mem hlt)
  have hlen:(l.take i).length≤1000000:=by rw[List.length_take];have:=hs.1;omega
  rw[getD_at hlt,hc]
  have hsz1:(Int.ofNat (l[i]).1.size)=((l[i]).1.size:Int):=rfl
  have hsz2:(Int.ofNat (l[i]).2.size)=((l[i]).2.size:Int):=rfl
  rw[hsz1,hsz2,JT (x:=16+((l[i]).1.size:Int)) (by omega) (by omega),JT (x:=16+((l[i]).1.size:Int)+((l[i]).2.size:Int)) (by omega) (by omega)]
  have hp:Cd l[i]=16+((l[i]).1.size:Int)+((l[i]).2.size:Int):=rfl
  rw[JT (by omega) (by omega),D9 (by have:=hs.1;omega),hp]
noncomputable def Nd (args:List Value) (objs:List AJ):GT:=
 match args,objs with
 | [.slice (some ⟨9,0,some 0⟩) n c],[.vec [.str,.str] l _]=> .ask ((n=l.length∧c=AF)∧Gz l) (.ret ⟨.int .i64 (BF l),[],[]⟩)
 | _,_=> .fail
theorem Q2:Da Tryz.prog AL Am (A3 AL 9 [] Nd):=by
 refine Bs (Aw.nil _ _) (by kernel_rfl) (n:=25) (by kernel_rfl) (by kernel_rfl) fun argsc objs x hx hro=>?_
 unfold Nd at hx
 split at hx
 ·rename_i n c l ro
  simp only[GT.run]at hx
  split at hx
  ·rename_i hok
   obtain⟨⟨rfl,rfl⟩,hs⟩:=hok
   cases hx
   refine⟨by simp,?_⟩
   have hE:As X0 10 Am (fun v _=>v= .int .i64 (BF l)) (st Am 25 [L4 l.length] (hR l)):=by
    refine Bd (Av X0) (ids:=[]) (S:=P8) rfl (Q:=fun _ _=>False) (R:=fun c=>c=Nk l 0 0) (fun v H h=>h.elim) (fun c h=>by rw[h];exact Tf l hs l.length 0 (by omega) (by omega)) 100 _ ?_
    rw[WD]
   exact hE.Ko.mono fun v H h=>by rw[h];exact E9 rfl
  ·cases hx
 ·cases hx
def DB (l:List (EK.C Ab)) (key:ByteArray):Option ByteArray:=(l.find? fun x=>ByteArray.toList x.1==ByteArray.toList key).map (·.2)
noncomputable def P2 (l:List (EK.C Ab)) (key:ByteArray):Value:= .tuple ⟨[.string ((DB l key).getD e0),.bool (DB l key).isSome]⟩
theorem Sa (l:List (EK.C Ab)) (key:ByteArray) (hs:l.length < 1000000):∀(m i:Nat),l.length - i=m→i≤l.length→As X0 10 Ao (fun v _=>v=P2 (l.drop i) key) (KM l key i):=by
 intro m
 induction m with
 | zero=>
  intro i hm hi
  refine Bd (Av X0) (ids:=[]) (S:=MI) rfl (Q:=fun v _=>v=P2 (l.drop i) key) (R:=fun _=>False) (fun v H h=>h) (fun c h=>h.elim) 200 _ ?_
  rw[QN,List.drop_eq_nil_of_le (by omega)]
  refine AT (fun h=>?_) (fun _=>rfl)
  exfalso;have:(i:Int) < l.length:=h;omega
 | succ m ih=>
  intro i hm hi
  have hlt:i < l.length:=by omega
  refine Bd (Av X0) (ids:=[]) (S:=MI) rfl (Q:=fun v _=>v=P2 (l.drop i) key) (R:=fun c=>P2 (l.drop i) key=P2 (l.drop (i+1)) key∧c=KM l key (i+1:Nat)) (fun v H h=>h) (fun c h=>by rw[h.1,h.2];exact ih (i+1) (by omega) (by omega)) 200 _ ?_
  rw[QN]
  refine AT (fun h=>?_) (fun h=>absurd (show(i:Int) < Int.ofNat l.length by simpa using hlt) h)
  refine AE (ca hlt) (AE (cb hlt) ?_)
  rw[getD_at hlt,D9 (by omega),List.drop_eq_getElem_cons hlt]
  refine Az (fun h=>AE (ca hlt) (AE (cb hlt) ?_)) (fun h=>⟨?_,rfl⟩)
  ·unfold P2 DB
   simp only[List.find?_cons,h];rfl
  ·unfold P2 DB
   simp only[List.find?_cons,h]
noncomputable def Oq (args:List Value) (objs:List AJ):GT:=
 match args,objs with
 | [.slice (some ⟨9,0,some 0⟩) n c,.string key],[.vec [.str,.str] l _]=> .ask ((n=l.length∧c=AF)∧l.length < 1000000) (.ret ⟨.tuple ⟨[.string ((DB l key).getD e0),.bool (DB l key).isSome]⟩,[],[]⟩)
 | _,_=> .fail
theorem UB:Da Tryz.prog AL Ao (A3 AL 9 [] Oq):=by
 refine Bs (Aw.nil _ _) (by kernel_rfl) (n:=25) (by kernel_rfl) (by kernel_rfl) fun argsc objs x hx hro=>?_
 unfold Oq at hx
 split at hx
 ·rename_i n c key l ro
  simp only[GT.run]at hx
  split at hx
  ·rename_i hok
   obtain⟨⟨rfl,rfl⟩,hs⟩:=hok
   cases hx
   refine⟨by simp,?_⟩
   have hE:As X0 10 Ao (fun v _=>v=P2 l key) (st Ao 25 [L4 l.length,.string key] (hR l)):=by
    refine Bd (Av X0) (ids:=[]) (S:=MI) rfl (Q:=fun _ _=>False) (R:=fun c=>c=KM l key 0) (fun v H h=>h.elim) (fun c h=>by rw[h];exact Sa l key hs l.length 0 (by omega) (by omega)) 100 _ ?_
    rw[U4]
   exact hE.Ko.mono fun v H h=>by rw[h];exact E9 rfl
  ·cases hx
 ·cases hx
def DG (l m:List (EK.C kS)):Bool:=List.map ByteArray.toList l==List.map ByteArray.toList m
theorem VN (l m:List (EK.C kS)) (hl:l.length=m.length) (hs:l.length < 1000000):∀(q i:Nat),l.length - i=q→i≤l.length→As X0 11 Ai (fun v _=>v= .bool (DG (l.drop i) (m.drop i))) (NT l m i):=by
 intro q
 induction q with
 | zero=>
  intro i hm hi
  refine Bd (Av X0) (ids:=[]) (S:=Qs) rfl (Q:=fun v _=>v= .bool (DG (l.drop i) (m.drop i))) (R:=fun _=>False) (fun v H h=>h) (fun c h=>h.elim) 200 _ ?_
  rw[Ss,List.drop_eq_nil_of_le (by omega),List.drop_eq_nil_of_le (by omega)]
  refine AT (fun h=>?_) (fun _=>rfl)
  exfalso;have:(i:Int) < l.length:=h;omega
 | succ q ih=>
  intro i hm hi
  have hlt:i < l.length:=by omega
  have hlt2:i < m.length:=by omega
  refine Bd (Av X0) (ids:=[]) (S:=Qs) rfl (Q:=fun v _=>v= .bool (DG (l.drop i) (m.drop i))) (R:=fun c=>DG (l.drop i) (m.drop i)=DG (l.drop (i+1)) (m.drop (i+1))∧c=NT l m (i+1:Nat)) (fun v H h=>h) (fun c h=>by rw[h.1,h.2];exact ih (i+1) (by omega) (by omega)) 200 _ ?_
  rw[Ss]
  refine AT (fun h=>?_) (fun h=>absurd (show(i:Int) < Int.ofNat l.length by simpa using hlt) h)
  refine AE (ca hlt) (AE (cb hlt) (AE (ca hlt2) (AE (cb hlt2) ?_)))
  rw[getD_at hlt,getD_at hlt2,D9 (by omega),List.drop_eq_getElem_cons hlt,List.drop_eq_getElem_cons hlt2]
  have e:∀(a b:ByteArray) (x y:List (EK.C kS)),DG (a::x) (b::y)=(ByteArray.toList a==ByteArray.toList b&&DG x y):=fun a b x y=>rfl
  rw[e]
  refine Az (fun h=>?_) (fun h=>⟨?_,rfl⟩)
  ·rw[Bool.not_eq_true']at h;rw[h];rfl
  ·rw[Bool.not_eq_false']at h;rw[h];rfl
noncomputable def Sh (args:List Value) (objs:List AJ):GT:=
 match args,objs with
 | [.slice (some ⟨9,0,some 0⟩) n c,.slice (some ⟨10,0,some 0⟩) n2 c2],[.vec [.str] l _,.vec [.str] m _]=> .ask ((n=l.length∧c=AF)∧(n2=m.length∧c2=AF)∧l.length < 1000000∧m.length < 1000000) (.ret ⟨.bool (DG l m),[],[]⟩)
 | _,_=> .fail
theorem WK:Da Tryz.prog AL Ai (A3 AL 9 [] Sh):=by
 refine Bs (Aw.nil _ _) (by kernel_rfl) (n:=26) (by kernel_rfl) (by kernel_rfl) fun argsc objs x hx hro=>?_
 unfold Sh at hx
 split at hx
 ·rename_i n c n2 c2 l r1 m r2
  simp only[GT.run]at hx
  split at hx
  ·rename_i hok
   obtain⟨⟨rfl,rfl⟩,⟨rfl,rfl⟩,hs,hs2⟩:=hok
   cases hx
   refine⟨by simp,?_⟩
   have hE:As X0 11 Ai (fun v _=>v= .bool (DG l m)) (st Ai 26 [L4 l.length,.slice (some ⟨10,0,some 0⟩) m.length AF] (fh l m)):=by
    refine Bd (Av X0) (ids:=[]) (S:=Qs) rfl (Q:=fun v _=>v= .bool (DG l m)) (R:=fun c=>l.length=m.length∧c=NT l m 0) (fun v H h=>h) (fun c h=>by rw[h.2];exact VN l m h.1 hs l.length 0 (by omega) (by omega)) 100 _ ?_
    rw[Wy]
    refine Az (fun h=>?_) (fun h=>⟨?_,rfl⟩)
    ·have hne:l.length≠m.length:=by intro e;rw[e]at h;simp at h
     have:DG l m=false:=by
      cases hq:DG l m
      ·rfl
      ·exfalso
       have:=congrArg List.length (eq_of_beq hq)
       simp only[List.length_map]at this
       exact hne this
     rw[this]
    ·have:(Int.ofNat l.length)=Int.ofNat m.length:=by simpa using h
     exact Int.ofNat.inj this
   exact hE.Ko.mono fun v H h=>by rw[h];exact E9 rfl
  ·cases hx
 ·cases hx
end Go.AD

set_option maxRecDepth 1000000
namespace Go.AD
open Go.Proofs
theorem TH {n:Nat} (h:n < 1000000):BO 16 (n+1)=true:=by
 unfold BO
 rw[Nat.ble_eq_true_of_le (by omega),Nat.ble_eq_true_of_le (by omega)];rfl
theorem room {b n m:Nat} (hb:BO b (n+1)=true) (h:n=m):(true&&Nat.ble (0+n) m&&BO b (n+1))=true:=by
 rw[hb,Nat.ble_eq_true_of_le (by omega)];rfl
def CJ (l:List (EK.C Ab)):List (EK.C kS):=l.map (·.1)
def CG (l:List (EK.C Ab)):List (EK.C kS):=l.map (·.2)
theorem Ep {l:List (EK.C Ab)} {i:Nat} (h:i < l.length) (f:EK.C Ab→EK.C kS):List.map f (l.take i)++[f l[i]]=List.map f (l.take (i+1)):=by
 rw[List.take_succ_eq_append_getElem h,List.map_append];rfl
theorem Rr (l:List (EK.C Ab)) (hs:l.length < 1000000):∀(q i:Nat),l.length - i=q→i≤l.length→
 As X0 10 Ap (fun v H=>v= .tuple ⟨[Fu 10 l.length,Fu 11 l.length]⟩∧H.get 10=some (.vec kS (CJ l) false)∧H.get 11=some (.vec kS (CG l) false)) (N1 l (CJ (l.take i)) (CG (l.take i)) (Fu 10 i) (Fu 11 i) i):=by
 intro q
 induction q with
 | zero=>
  intro i hm hi
  have he:i=l.length:=by omega
  subst he
  refine Bd (Av X0) (ids:=[]) (S:=Mh) rfl (Q:=fun v os=>v= .tuple ⟨[Fu 10 l.length,Fu 11 l.length]⟩∧os=[some (.vec kS (CJ l) false),some (.vec kS (CG l) false)]) (R:=fun _=>False) (fun v H h=>?_) (fun c h=>h.elim) 200 _ ?_
  ·obtain⟨rfl,h⟩:=h
   have h:[H.get 10,H.get 11]=_:=h
   simp only[List.cons.injEq,and_true]at h
   exact⟨rfl,h.1,h.2⟩
  ·rw[QF,List.take_length]
   refine AT (fun h=>?_) (fun _=>⟨by unfold Fu;rw[E4],rfl⟩)
   exfalso;have:(l.length:Int) < l.length:=h;omega
 | succ q ih=>
  intro i hm hi
  have hlt:i < l.length:=by omega
  refine Bd (Av X0) (ids:=[]) (S:=Mh) rfl (Q:=fun _ _=>False) (R:=fun c=>c=N1 l (CJ (l.take (i+1))) (CG (l.take (i+1))) (Fu 10 (i+1)) (Fu 11 (i+1)) (i+1:Nat)) (fun v H h=>h.elim) (fun c h=>by rw[h];exact ih (i+1) (by omega) (by omega)) 200 _ ?_
  rw[QF]
  refine AT (fun h=>?_) (fun h=>absurd (show(i:Int) < Int.ofNat l.length by simpa using hlt) h)
  have e1:(CJ (l.take i)).length=i:=by unfold CJ;rw[List.length_map,List.length_take];omega
  have e2:(CG (l.take i)).length=i:=by unfold CG;rw[List.length_map,List.length_take];omega
  refine AE (ca hlt) (AE (cb hlt) (AE (room (TH (by omega)) e1.symm) (AE (ca hlt) (AE (cb hlt) (AE (room (TH (by omega)) e2.symm) ?_)))))
  rw[getD_at hlt,D9 (by omega),List.drop_zero,List.drop_zero,List.take_of_length_le (l:=CJ (l.take i)) (by omega),List.take_of_length_le (l:=CG (l.take i)) (by omega)]
  unfold Fu
  rw[←E4]
  rw[show CJ (l.take i)++[(l[i]).1]=CJ (l.take (i+1))from Ep hlt (fun x=>x.1),show CG (l.take i)++[(l[i]).2]=CG (l.take (i+1))from Ep hlt (fun x=>x.2)]
noncomputable def O3 (args:List Value) (objs:List AJ):GT:=
 match args,objs with
 | [.slice (some ⟨9,0,some 0⟩) n c],[.vec [.str,.str] l _]=> .ask ((n=l.length∧c=AF)∧l.length < 1000000) (.ret ⟨.tuple ⟨[.slice (some ⟨10,0,some 0⟩) l.length AF,.slice (some ⟨11,0,some 0⟩) l.length AF]⟩,[],[.vec kS (CJ l) false,.vec kS (CG l) false]⟩)
 | _,_=> .fail
theorem ZI {v v1:Value} {H:AA} {m b1 b2:Nat} {o1 o2:AJ} (h1:9+m≤b1) (h2:9+m≤b2) (hne:b1≠b2) (hv:EG (Ci.F6 AL 9 m [b1,b2]) v=some v1)
 (g1:∃p,BR (Ci.F6 AL 9 m [b1,b2]) o1=some p∧H.get b1=some p) (g2:∃p,BR (Ci.F6 AL 9 m [b1,b2]) o2=some p∧H.get b2=some p):Ci AL 9 m [] ⟨v,[],[o1,o2]⟩ v1 H:=by
 refine⟨[b1,b2],by simp[hne],fun b hb=>by simp at hb;omega,rfl,hv,fun j b o hj ho=>?_,fun j o hj hm=>by cases hm⟩
 cases j with
 | zero=>cases hj;cases ho;exact g1
 | succ j=>cases j with
  | zero=>cases hj;cases ho;exact g2
  | succ j=>cases hj
theorem Uf:Da Tryz.prog AL Ap (A3 AL 9 [] O3):=by
 refine Bs (Aw.nil _ _) (by kernel_rfl) (n:=31) (by kernel_rfl) (by kernel_rfl) fun argsc objs x hx hro=>?_
 unfold O3 at hx
 split at hx
 ·rename_i n c l ro
  simp only[GT.run]at hx
  split at hx
  ·rename_i hok
   obtain⟨⟨rfl,rfl⟩,hs⟩:=hok
   cases hx
   refine⟨by simp,?_⟩
   have hE:As X0 10 Ap (fun v H=>v= .tuple ⟨[Fu 10 l.length,Fu 11 l.length]⟩∧H.get 10=some (.vec kS (CJ l) false)∧H.get 11=some (.vec kS (CG l) false)) (st Ap 31 [L4 l.length] (hR l)):=by
    refine Bd (Av X0) (ids:=[]) (S:=Mh) rfl (Q:=fun _ _=>False) (R:=fun c=>c=Wd l) (fun v H h=>h.elim) (fun c h=>?_) 100 _ ?_
    ·rw[h]
     refine A6.cH 4 0 kS (by rfl) (by rfl) (show look _ 0= .slice (some ⟨9,0,some 0⟩) l.length AF from rfl) (by decide) ?_
     refine A6.cH 5 0 kS (by rfl) (by rfl) (show look _ 0= .slice (some ⟨9,0,some 0⟩) l.length AF from rfl) (by decide) ?_
     exact Rr l hs l.length 0 (by omega) (by omega)
    ·rw[UC]
   refine hE.Ko.mono fun v H h=>?_
   obtain⟨rfl,h1,h2⟩:=h
   exact ZI (m:=1) (b1:=10) (b2:=11) (by omega) (by omega) (by omega) rfl ⟨_,rfl,h1⟩ ⟨_,rfl,h2⟩
  ·cases hx
 ·cases hx
def YN (a b:ByteArray):Bool:= !(Op.bytesLess (ByteArray.toList a) (ByteArray.toList b)||ByteArray.toList a==ByteArray.toList b)
def ET (l:List (EK.C Ab)) (key:ByteArray):List (EK.C Ab):=l.filter fun x=>Op.bytesLess (ByteArray.toList x.1) (ByteArray.toList key)
def Dk (l:List (EK.C Ab)) (key:ByteArray):List (EK.C Ab):=l.filter fun x=>YN x.1 key
def BY (l:List (EK.C Ab)) (k:Int) (key val:ByteArray):List (EK.C Ab):=(bif k==1 then ET l key++[(key,val)]else ET l key)++Dk l key
noncomputable abbrev Xq (w:List (EK.C Ab)) (v:Value) (H:AA):Prop:=v=Fu 11 w.length∧H.get 11=some (.vec Ab w false)
theorem GU {l:List (EK.C Ab)} {i:Nat} (h:i < l.length) (p:EK.C Ab→Bool):(l.take (i+1)).filter p=(l.take i).filter p++(bif p l[i]then [l[i]]else []):=by
 rw[List.take_succ_eq_append_getElem h,List.filter_append]
 cases hp:p l[i]<;>simp[hp]
theorem RQ (l:List (EK.C Ab)) (k a b:Int) (key val:ByteArray) (i6:Int) (pre:List (EK.C Ab)) (hs:l.length < 400000) (hp:pre.length < 500000):∀(q i:Nat),l.length - i=q→i≤l.length→
 As X0 10 Al (Xq (pre++Dk l key)) (Ge 2 l k a b key val (pre++Dk (l.take i) key) (Fu 11 (pre++Dk (l.take i) key).length) (.int .i64 i6) (.int .i64 i)):=by
 intro q
 induction q with
 | zero=>
  intro i hm hi
  have he:i=l.length:=by omega
  subst he
  refine Bd (Av X0) (ids:=[]) (S:=KV) rfl (Q:=fun v os=>v=Fu 11 (pre++Dk l key).length∧os=[some (.vec Ab (pre++Dk l key) false)]) (R:=fun _=>False) (fun v H h=>?_) (fun c h=>h.elim) 200 _ ?_
  ·obtain⟨rfl,h⟩:=h
   have h:[H.get 11]=_:=h
   simp only[List.cons.injEq,and_true]at h
   exact⟨rfl,h⟩
  ·rw[QB,List.take_length]
   refine AT (fun h=>?_) (fun _=>⟨by unfold Fu;rw[E4],rfl⟩)
   exfalso;have:(l.length:Int) < l.length:=h;omega
 | succ q ih=>
  intro i hm hi
  have hlt:i < l.length:=by omega
  have hlen:(Dk (l.take i) key).length≤i:=by
   have:=List.length_filter_le (fun x:EK.C Ab=>YN x.1 key) (l.take i)
   rw[List.length_take]at this
   show(List.filter _ _).length≤i
   omega
  refine Bd (Av X0) (ids:=[]) (S:=KV) rfl (Q:=fun _ _=>False) (R:=fun c=>c=Ge 2 l k a b key val (pre++Dk (l.take (i+1)) key) (Fu 11 (pre++Dk (l.take (i+1)) key).length) (.int .i64 i6) (.int .i64 (i+1:Nat))) (fun v H h=>h.elim) (fun c h=>by rw[h];exact ih (i+1) (by omega) (by omega)) 200 _ ?_
  rw[QB]
  have hstep:=GU hlt (fun x=>YN x.1 key)
  refine AT (fun h=>?_) (fun h=>absurd (show(i:Int) < Int.ofNat l.length by simpa using hlt) h)
  refine AE (ca hlt) (AE (cb hlt) ?_)
  rw[getD_at hlt,D9 (by omega),List.drop_zero,List.take_length]
  refine Az (b:=YN l[i].1 key) (fun h=>AE (ca hlt) (AE (cb hlt) (AE (room (NF (by rw[List.length_append];omega)) rfl) ?_))) (fun h=>?_)
  ·have e:Dk (l.take (i+1)) key=Dk (l.take i) key++[l[i]]:=by
    unfold Dk;rw[hstep];show _++(bif YN l[i].1 key then _ else _)=_;rw[h];rfl
   rw[e,←List.append_assoc,List.length_append (bs:=[l[i]])]
   unfold Fu
   rw[←E4];rfl
  ·have e:Dk (l.take (i+1)) key=Dk (l.take i) key:=by
    unfold Dk;rw[hstep];show _++(bif YN l[i].1 key then _ else _)=_;rw[h];exact List.append_nil _
   rw[e]
   unfold Fu
   rw[←E4]
theorem R4 (l:List (EK.C Ab)) (k a b:Int) (key val:ByteArray) (hs:l.length < 400000):∀(q i:Nat),l.length - i=q→i≤l.length→
 As X0 10 Al (Xq (BY l k key val)) (Ge 0 l k a b key val (ET (l.take i) key) (Fu 11 (ET (l.take i) key).length) (.int .i64 i) A5):=by
 intro q
 have hlow:(ET l key).length≤l.length:=List.length_filter_le _ _
 induction q with
 | zero=>
  intro i hm hi
  have he:i=l.length:=by omega
  subst he
  refine Bd (Av X0) (ids:=[]) (S:=KV) rfl (Q:=fun _ _=>False) (R:=fun c=>c=Ge 2 l k a b key val (bif k==1 then ET l key++[(key,val)]else ET l key) (Fu 11 (bif k==1 then ET l key++[(key,val)]else ET l key).length) (.int .i64 l.length) (.int .i64 0)) (fun v H h=>h.elim) (fun c h=>?_) 200 _ ?_
  ·rw[h]
   have hp:(bif k==1 then ET l key++[(key,val)]else ET l key).length < 500000:=by
    cases k==1
    ·show(ET l key).length < _;omega
    ·show(ET l key++[(key,val)]).length < _;rw[List.length_append,List.length_singleton];omega
   have:=RQ l k a b key val l.length _ hs hp l.length 0 (by omega) (by omega)
   rw[List.take_zero,show Dk [] key=[]from rfl,List.append_nil]at this
   exact this
  ·rw[Pt,List.take_length]
   refine AT (fun h=>?_) (fun _=>?_)
   ·exfalso;have:(l.length:Int) < l.length:=h;omega
   rw[List.drop_zero,List.take_length]
   refine Az (fun h=>AE (room (NF (by omega)) rfl) ?_) (fun h=>?_)
   ·rw[h]
    unfold Fu
    rw[E4]
    simp only[cond_true,List.length_append,List.length_singleton]
   ·rw[h]
    unfold Fu
    rw[E4]
    rfl
 | succ q ih=>
  intro i hm hi
  have hlt:i < l.length:=by omega
  have hlen:(ET (l.take i) key).length≤i:=by
   have:=List.length_filter_le (fun x:EK.C Ab=>Op.bytesLess (ByteArray.toList x.1) (ByteArray.toList key)) (l.take i)
   rw[List.length_take]at this
   show(List.filter _ _).length≤i
   omega
  refine Bd (Av X0) (ids:=[]) (S:=KV) rfl (Q:=fun _ _=>False) (R:=fun c=>c=Ge 0 l k a b key val (ET (l.take (i+1)) key) (Fu 11 (ET (l.take (i+1)) key).length) (.int .i64 (i+1:Nat)) A5) (fun v H h=>h.elim) (fun c h=>by rw[h];exact ih (i+1) (by omega) (by omega)) 200 _ ?_
  rw[Pt]
  have hstep:=GU hlt (fun x=>Op.bytesLess (ByteArray.toList x.1) (ByteArray.toList key))
  refine AT (fun h=>?_) (fun h=>absurd (show(i:Int) < Int.ofNat l.length by simpa using hlt) h)
  refine AE (ca hlt) (AE (cb hlt) ?_)
  rw[getD_at hlt,D9 (by omega),List.drop_zero,List.take_length]
  refine Az (fun h=>AE (ca hlt) (AE (cb hlt) (AE (room (NF (by omega)) rfl) ?_))) (fun h=>?_)
  ·have e:ET (l.take (i+1)) key=ET (l.take i) key++[l[i]]:=by
    unfold ET;rw[hstep];show _++(bif Op.bytesLess (ByteArray.toList l[i].1) (ByteArray.toList key)then _ else _)=_;rw[h];rfl
   rw[e,List.length_append (bs:=[l[i]])]
   unfold Fu
   rw[←E4];rfl
  ·have e:ET (l.take (i+1)) key=ET (l.take i) key:=by
    unfold ET;rw[hstep];show _++(bif Op.bytesLess (ByteArray.toList l[i].1) (ByteArray.toList key)then _ else _)=_;rw[h];exact List.append_nil _
   rw[e]
   unfold Fu
   rw[←E4]
noncomputable def TJ (args:List Value) (objs:List AJ):GT:=
 match args,objs with
 | [.slice (some ⟨9,0,some 0⟩) n c,.agg ⟨[.int .i64 k,.int .i64 _,.int .i64 _,.string key,.string val]⟩],[.vec [.str,.str] l _]=> .ask ((n=l.length∧c=AF)∧l.length < 400000) (.ret ⟨.slice (some ⟨10,0,some 0⟩) (BY l k key val).length AF,[],[.vec Ab (BY l k key val) false]⟩)
 | _,_=> .fail
theorem XQ:Da Tryz.prog AL Al (A3 AL 9 [] TJ):=by
 refine Bs (Aw.nil _ _) (by kernel_rfl) (n:=62) (by kernel_rfl) (by kernel_rfl) fun argsc objs x hx hro=>?_
 unfold TJ at hx
 split at hx
 ·rename_i n c k a b key val l ro
  simp only[GT.run]at hx
  split at hx
  ·rename_i hok
   obtain⟨⟨rfl,rfl⟩,hs⟩:=hok
   cases hx
   refine⟨by simp,?_⟩
   have hE:As X0 10 Al (Xq (BY l k key val)) (st Al 62 [L4 l.length,IX k a b key val] (hR l)):=by
    refine Bd (Av X0) (ids:=[]) (S:=KV) rfl (Q:=fun _ _=>False) (R:=fun c=>c=bQ 0 l k a b key val (.slice none 0 0) (.int .i64 0) A5) (fun v H h=>h.elim) (fun c h=>?_) 100 _ ?_
    ·rw[h]
     refine A6.cH 5 0 Ab (by rfl) (by rfl) (show look _ 0= .slice (some ⟨9,0,some 0⟩) l.length AF from rfl) (by decide) ?_
     exact R4 l k a b key val hs l.length 0 (by omega) (by omega)
    ·rw[XB]
   refine hE.Ko.mono fun v H h=>?_
   obtain⟨rfl,h1⟩:=h
   exact OC (m:=1) (b:=11) (fun j o=>by simp) (by omega) rfl rfl h1
  ·cases hx
 ·cases hx
end Go.AD

set_option maxRecDepth 1000000
namespace Go.AD
open Go.Proofs
noncomputable def GL (m:AB) (b n x:Nat):AJ:= .cells (BV m b n (.slice (some ⟨x,0,some 0⟩) m.AG.length AF)) 0 false
noncomputable def b8 (m:AB) (l:List (EK.C Ab)):AA:=BW ⟨.leaf,9⟩ [GL m 10 11 12,DP m.base,EF 13 l.length,.vec CW m.AG false,.vec Ab l false]
noncomputable def Wl (m:AB):AA:=BW ⟨.leaf,9⟩ [GL m 10 11 12,DP m.base,.cells [.bool true,.slice none 0 0] 0 false,.vec CW m.AG false]
noncomputable def fq (m:AB) (l:List (EK.C Ab)) (i:Int) (x y:Value) (H:AA→AA):Ay:=
 ⟨⟨Bj,Ib [(2,.func (.yield 12) ⟨[]⟩ ⟨[]⟩),(11,.slice (some ⟨10,0,some 0⟩) l.length AF),(12,.int .i64 l.length),(13,.int .i64 i)],25,[.code (Bb Tryz.prog Bj [1,0,0]),.inLoop (Bb Tryz.prog Bj [1,0,0]),.inBlock 0],[],false,.normal,none⟩,
  [⟨CK,Ib [],6,[KU (Bb Tryz.prog CK []) 2],[],false,.normal,none⟩,
   ⟨CU,Ib [(2,JH 13)],20,[.inRangeFunc 12,.inBlock 0],[⟨.collected 11,⟨[]⟩⟩],false,.normal,none⟩,
   ⟨Aa,Ib [(4,JH 17),(5,JH 16)],23,[.inRangeFunc 15,.inBlock 0,.code (Bb Tryz.prog Aa [1,1,1])],[⟨.collected 14,⟨[]⟩⟩],false,.normal,none⟩],
  H (BW ⟨.leaf,9⟩ [GL m 18 19 20,.vec Ab l false,.deferred (some []),
   .loop ⟨.ready,none,CU,Ib [(2,JH 13)],20,#[13,14],Bb Tryz.prog CU [1,1,1,0,0],Bb Tryz.prog CU [1,1,1,0,1],11⟩,
   .cells [.func (.yield 15) ⟨[]⟩ ⟨[]⟩] 0 false,.deferred (some []),
   .loop ⟨.ready,none,Aa,Ib [(4,JH 17),(5,JH 16)],23,#[11,12],Bb Tryz.prog Aa [1,1,0,1,0,0],Bb Tryz.prog Aa [1,1,0,1,0,1],14⟩,
   .cells [y] 0 false,.cells [x] 0 false,DP m.base,EF 10 l.length,.vec CW m.AG false])⟩
noncomputable def fA (m:AB) (l:List (EK.C Ab)):Ay:=fq m l 0 (.slice none 0 0) (.slice none 0 0) id
noncomputable def eD (m:AB) (l:List (EK.C Ab)) (ks vs:List (EK.C kS)) (n1 n2:Nat) (i:Int):Ay:=fq m l i (Fu 22 n1) (Fu 21 n2) fun H=>(H.alloc (.vec kS vs false)).alloc (.vec kS ks false)
def Xx:Stop:=⟨Bj,3,2,10,[9],[2,11,12,13]⟩
def XL:List (FuncId × List Nat):=[(CK,[]),(CU,[2]),(Aa,[4,5])]
theorem YY (m:AB) (l:List (EK.C Ab)) (Q:Value→List (Option AJ)→Prop) (R:Ay→Prop):aP X0 Cv Aa [9] Xx XL Q R 600 (st Aa 23 [p9] (b8 m l))=(
 (bif decide (0≤Int.ofNat (List.length l))&&Nat.ble (Int.toNat (Int.ofNat (List.length l))) (List.length l)&&decide (0≤0)&&Nat.ble 0 (Int.toNat (Int.ofNat (List.length l)))then(R (fA m l))else False)):=by kernel_rfl
theorem WJ (m:AB) (l:List (EK.C Ab)) (ks vs:List (EK.C kS)) (n1 n2:Nat) (i:Int) (Q:Value→List (Option AJ)→Prop) (R:Ay→Prop):aP X0 Cv Aa [9,10,18,19,20,21,22] Xx XL Q R 600 (eD m l ks vs n1 n2 i)=(
 (bif decide (i < ((List.length l):Int))then(bif decide (0≤i)&&Nat.blt (Int.toNat i) (List.length l)then(bif Nat.blt (0+Int.toNat i) (List.length l)then(bif true&&Nat.ble (0+n1) (List.length ks)&&BO 16 (n1+1)then(bif true&&Nat.ble (0+n2) (List.length vs)&&BO 16 (n2+1)then(R (eD m l (List.take n1 (List.drop 0 ks)++[Prod.fst (List.getD l (0+Int.toNat i) (EK.AQ Ab))]) (List.take n2 (List.drop 0 vs)++[Prod.snd (List.getD l (0+Int.toNat i) (EK.AQ Ab))]) (n1+1) (n2+1) (IntKind.wrap .i64 (i+1))))else False)else False)else False)else False)else(((.slice (some ⟨21,0,(some 0)⟩) n2 18446744073709551616):Value)=(.slice (some ⟨21,0,(some 0)⟩) n2 18446744073709551616))∧(Q (.tuple ⟨[(.slice (some ⟨22,0,(some 0)⟩) n1 18446744073709551616),(.slice (some ⟨21,0,(some 0)⟩) n2 18446744073709551616)]⟩) [some (.cells [(.int .i64 (List.getD (AB.cfg m) 0 0)),(.int .i64 (List.getD (AB.cfg m) 1 0)),(.int .i64 (List.getD (AB.cfg m) 2 0)),(.int .i64 (List.getD (AB.cfg m) 3 0)),(.int .i64 (List.getD (AB.cfg m) 4 0)),(.int .i64 (List.getD (AB.cfg m) 5 0)),(.int .i64 (List.getD (AB.cfg m) 6 0)),(.int .i64 (AB.AS m)),(.pointer (some ⟨18,0,none⟩)),(.pointer (some ⟨19,0,none⟩)),(.int .i64 (AB.cost m)),(.slice (some ⟨20,0,(some 0)⟩) (List.length (AB.AG m)) 18446744073709551616),(.pointer none),(.int .i64 (AB.state m)),(.bool (AB.AK m))] 0 false),some (.vec Ab l false),some (.abs (AZ.pack (Pk.table (AB.base m))) false),some (.cells [(.bool true),(.slice (some ⟨10,0,(some 0)⟩) (List.length l) 18446744073709551616)] 0 false),some (.vec CW (AB.AG m) false),some (.vec kS vs false),some (.vec kS ks false),some (.vec kS ks false),some (.vec kS vs false)]))):=by kernel_rfl
theorem Yp (m:AB) (Q:Value→List (Option AJ)→Prop):Gv X0 Cv Aa [9,10,11,12] Q 600 (st Aa 23 [p9] (Wl m))=(
 (((.slice none 0 0):Value)=(.slice none 0 0))∧(Q (.tuple ⟨[(.slice none 0 0),(.slice none 0 0)]⟩) [some (.cells [(.int .i64 (List.getD (AB.cfg m) 0 0)),(.int .i64 (List.getD (AB.cfg m) 1 0)),(.int .i64 (List.getD (AB.cfg m) 2 0)),(.int .i64 (List.getD (AB.cfg m) 3 0)),(.int .i64 (List.getD (AB.cfg m) 4 0)),(.int .i64 (List.getD (AB.cfg m) 5 0)),(.int .i64 (List.getD (AB.cfg m) 6 0)),(.int .i64 (AB.AS m)),(.pointer (some ⟨10,0,none⟩)),(.pointer (some ⟨11,0,none⟩)),(.int .i64 (AB.cost m)),(.slice (some ⟨12,0,(some 0)⟩) (List.length (AB.AG m)) 18446744073709551616),(.pointer none),(.int .i64 (AB.state m)),(.bool (AB.AK m))] 0 false),some (.abs (AZ.pack (Pk.table (AB.base m))) false),some (.cells [(.bool true),(.slice none 0 0)] 0 false),some (.vec CW (AB.AG m) false)])):=by kernel_rfl
end Go.AD

set_option maxRecDepth 1000000
namespace Go.AD
open Go.Proofs
abbrev dB (m:AB) (l:List (EK.C Ab)) (v:Value) (H:AA):Prop:=v= .tuple ⟨[Fu 22 l.length,Fu 21 l.length]⟩∧H.get 9=some (GL m 18 19 20)∧H.get 10=some (.vec Ab l false)∧H.get 18=some (DP m.base)∧H.get 19=some (EF 10 l.length)∧H.get 20=some (.vec CW m.AG false)∧H.get 21=some (.vec kS (CG l) false)∧H.get 22=some (.vec kS (CJ l) false)
theorem Xo (m:AB) (l:List (EK.C Ab)) (hs:l.length < 1000000):∀(q i:Nat),l.length - i=q→i≤l.length→
 As X0 10 Aa (dB m l) (eD m l (CJ (l.take i)) (CG (l.take i)) i i i):=by
 intro q
 induction q with
 | zero=>
  intro i hm hi
  have he:i=l.length:=by omega
  subst he
  refine GD (Av X0) (ids:=[9,10,18,19,20,21,22]) (S:=Xx) (ks:=XL) (by kernel_rfl) (Q:=fun v os=>v= .tuple ⟨[Fu 22 l.length,Fu 21 l.length]⟩∧∃a b,os=[some (GL m 18 19 20),some (.vec Ab l false),some (DP m.base),some (EF 10 l.length),some (.vec CW m.AG false),some (.vec kS (CG l) false),some (.vec kS (CJ l) false),a,b]) (R:=fun _=>False) (fun v H h=>?_) (fun c h=>h.elim) 600 _ ?_
  ·obtain⟨rfl,a,b,h⟩:=h
   have h:[H.get 9,H.get 10,H.get 18,H.get 19,H.get 20,H.get 21,H.get 22,H.get 22,H.get 21]=_:=h
   simp only[List.cons.injEq,and_true]at h
   obtain⟨g1,g2,g3,g4,g5,g6,g7,_⟩:=h
   exact⟨rfl,g1,g2,g3,g4,g5,g6,g7⟩
  ·rw[WJ,List.take_length]
   refine AT (fun h=>?_) (fun _=>⟨rfl,by unfold Fu;rw[E4],_,_,by unfold GL EF AF;rfl⟩)
   exfalso;have:(l.length:Int) < l.length:=h;omega
 | succ q ih=>
  intro i hm hi
  have hlt:i < l.length:=by omega
  refine GD (Av X0) (ids:=[9,10,18,19,20,21,22]) (S:=Xx) (ks:=XL) (by kernel_rfl) (Q:=fun _ _=>False) (R:=fun c=>c=eD m l (CJ (l.take (i+1))) (CG (l.take (i+1))) (i+1) (i+1) (i+1:Nat)) (fun v H h=>h.elim) (fun c h=>by rw[h];exact ih (i+1) (by omega) (by omega)) 600 _ ?_
  rw[WJ]
  refine AT (fun h=>?_) (fun h=>absurd (show(i:Int) < (l.length:Int) by omega) h)
  have e1:(CJ (l.take i)).length=i:=by unfold CJ;rw[List.length_map,List.length_take];omega
  have e2:(CG (l.take i)).length=i:=by unfold CG;rw[List.length_map,List.length_take];omega
  refine AE (ca hlt) (AE (cb hlt) (AE (room (TH (by omega)) e1.symm) (AE (room (TH (by omega)) e2.symm) ?_)))
  rw[getD_at hlt,D9 (by omega),List.drop_zero,List.drop_zero,List.take_of_length_le (l:=CJ (l.take i)) (by omega),List.take_of_length_le (l:=CG (l.take i)) (by omega)]
  rw[show CJ (l.take i)++[(l[i]).1]=CJ (l.take (i+1))from Ep hlt (fun x=>x.1),show CG (l.take i)++[(l[i]).2]=CG (l.take (i+1))from Ep hlt (fun x=>x.2)]
theorem UT (m:AB) (l:List (EK.C Ab)) (hs:l.length < 1000000):As X0 10 Aa (dB m l) (st Aa 23 [p9] (b8 m l)):=by
 refine GD (Av X0) (ids:=[9]) (S:=Xx) (ks:=XL) (by kernel_rfl) (Q:=fun _ _=>False) (R:=fun c=>c=fA m l) (fun v H h=>h.elim) (fun c h=>?_) 600 _ ?_
 ·rw[h]
  have hn:(fA m l).H.next=21:=by kernel_rfl
  refine A6.Qn 16 11 kS [] [] (by rfl) (by rfl) (show look _ 11= .slice (some ⟨10,0,some 0⟩) l.length AF from rfl) (show(fA m l).H.get 16=some (.cells [.slice none 0 0] 0 false) by kernel_rfl) (by decide) ?_
  refine A6.Qn 17 11 kS [] [] (by rfl) (by rfl) (show look _ 11= .slice (some ⟨10,0,some 0⟩) l.length AF from rfl) (ro:=false) (e:=0) (by kernel_rfl) (by decide) ?_
  have:=Xo m l hs l.length 0 (by omega) (by omega)
  rw[List.take_zero]at this
  refine Eq.mp (congrArg (As X0 10 Aa (dB m l)) (?_:eD m l (CJ []) (CG []) 0 0 (0:Nat)=_)) this
  kernel_rfl
 ·rw[YY]
  exact AE (by simp) rfl
noncomputable def Yz (args:List Value) (objs:List AJ):GT:=
 match args,objs with
 | [.pointer (some ⟨9,0,none⟩)],[.abs (.pack (.model m)) _]=> .ask (m.now.length < 1000000) (.ret ⟨.tuple ⟨[.slice (some ⟨10,0,some 0⟩) m.now.length AF,.slice (some ⟨11,0,some 0⟩) m.now.length AF]⟩,[some (.abs (.pack (.model m)) false)],[.vec kS (CJ m.now) false,.vec kS (CG m.now) false]⟩)
 | _,_=> .fail
def fM (m:AB) (v:Value) (H:AA):Prop:=∃b n x k1 k2,v= .tuple ⟨[Fu k1 m.now.length,Fu k2 m.now.length]⟩∧QM 9 b n x H m∧k1≠k2∧k1∉9::[b,n,x]∧k2∉9::[b,n,x]∧10≤k1∧10≤k2∧H.get k1=some (.vec kS (CJ m.now) false)∧H.get k2=some (.vec kS (CG m.now) false)
theorem Rp (m:AB):((BW ⟨.leaf,9⟩ (Mq m)).put 11 (EF 13 m.now.length)).alloc (.vec Ab m.now false)=b8 m m.now:=by kernel_rfl
theorem Re (m:AB):(BW ⟨.leaf,9⟩ (Mq m)).put 11 (.cells [.bool true,.slice none 0 0] 0 false)=Wl m:=by kernel_rfl
theorem SM (m:AB):Ax (BW ⟨.leaf,9⟩ (Mq m)) 0 200 [9] []=[9,10,11,12]:=by kernel_rfl
theorem TW (m:AB):∀x,13≤x→(BW ⟨.leaf,9⟩ (Mq m)).get x=none:=by
 intro x hx
 rw[E6]
 show(if x < 9 then _ else _)=_
 rw[if_neg (by omega),List.getElem?_eq_none (by simp[Mq];omega)]
 rfl
theorem Y7:Da Tryz.prog AL Aa (A3 AL 9 [true] Yz):=by
 refine Bs (Aw.nil _ _) (by kernel_rfl) (n:=23) (by kernel_rfl) (by kernel_rfl) fun argsc objs x hx hro=>?_
 unfold Yz at hx
 split at hx
 ·rename_i m ro
  simp only[GT.run]at hx
  split at hx
  ·rename_i hn
   cases hx
   have hr0:ro=false:=hro 0 _ rfl rfl
   subst hr0
   refine⟨by simp,?_⟩
   show A4 X0 10 (fun b=>9≤b∧b < 10) Aa _ (st Aa 23 [p9] (Mf m))
   have hD9:∀v:Value,∀b∈[9],b∈Af 4 v∨(9≤b∧b < 10):=fun v b hb=>by
    rw[List.mem_singleton]at hb;subst hb;exact .inr ⟨Nat.le_refl 9,Nat.lt_succ_self 9⟩
   refine A4.shut (Q:=fM m) (S9 (rest:=[]) ⟨Nat.le_refl 9,Nat.lt_succ_self 9⟩ ?_) ?_
   ·refine A4.aT (b:=11) (s:= .table m.now) (ro:=false) (rs:=[9]) (fun x hx=>?_) ?_ ?_ (fun ops p k h=>by cases h) fun objs hr=>?_
    ·rw[List.mem_singleton]at hx;subst hx;exact⟨Nat.le_refl 9,Nat.lt_succ_self 9⟩
    ·show 11∈Ax (BW ⟨.leaf,9⟩ (Mq m)) 0 200 [9] []
     rw[SM];simp
    ·show(BW ⟨.leaf,9⟩ (Mq m)).get 11=_
     kernel_rfl
    generalize hl:m.now=l at hr
    cases hr with
    | EM=>
     refine⟨_,PC (H:=BW ⟨.leaf,9⟩ (Mq m)) (b:=11) (ro:=false) (o1:= .cells [.bool true,.slice none 0 0] 0 false) (show 11 < 13 by decide) (TW m) rfl,?_⟩
     rw[Re]
     have hE:As X0 10 Aa (fun v H=>v= .tuple ⟨[.slice none 0 0,.slice none 0 0]⟩∧[H.get 9,H.get 10,H.get 11,H.get 12]=[some (GL m 10 11 12),some (DP m.base),some (.cells [.bool true,.slice none 0 0] 0 false),some (.vec CW m.AG false)]) (st Aa 23 [p9] (Wl m)):=by
      refine(B8.Gq (B6 (Av X0) (ids:=[9,10,11,12]) (Q:=fun v os=>v= .tuple ⟨[.slice none 0 0,.slice none 0 0]⟩∧os=[some (GL m 10 11 12),some (DP m.base),some (.cells [.bool true,.slice none 0 0] 0 false),some (.vec CW m.AG false)]) 600 _ ?_)).mono ?_
      ·rw[Yp]
       exact⟨rfl,rfl,by unfold GL AF;rfl⟩
      ·rintro v H ⟨rfl,h⟩
       exact⟨rfl,h⟩
     refine A4.shut (Q:=fun v H=>∃k1 k2,100≤k1∧100≤k2∧k1≠k2∧v= .tuple ⟨[Fu k1 0,Fu k2 0]⟩∧[H.get 9,H.get 10,H.get 11,H.get 12]=[some (GL m 10 11 12),some (DP m.base),some (.cells [.bool true,.slice none 0 0] 0 false),some (.vec CW m.AG false)]∧H.get k1=some (.vec kS [] false)∧H.get k2=some (.vec kS [] false)) (hE.Ko.tell ?_) ?_
     ·rintro v H ⟨rfl,h⟩
      have n1:=H.D5
      have n2:=(H.CQ kS).D5
      have n3:(H.CQ kS).BU≠H.BU:=by
       have e1:(H.CQ kS).BU=max (max H.next 100+1) 100:=rfl
       have e2:H.BU=max H.next 100:=rfl
       omega
      refine⟨.tuple ⟨[Fu H.BU 0,Fu (H.CQ kS).BU 0]⟩,(H.CQ kS).CQ kS,fun base W0 μ W v' hT hv hH=>?_,_,_,n1,n2,Ne.symm n3,rfl,?_,?_,?_⟩
      ·obtain⟨μ2,a1,a2,a3⟩:=hH.VU (k:=kS) (hT 9 ⟨Nat.le_refl 9,Nat.lt_succ_self 9⟩)
       obtain⟨T,hT9⟩:=hT 9 ⟨Nat.le_refl 9,Nat.lt_succ_self 9⟩
       obtain⟨μ3,b1,b2,b3⟩:=a2.VU (k:=kS) ⟨T,a1 9 T hT9⟩
       refine⟨μ3,Ah.le_trans a1 b1,b2,?_⟩
       cases hv with
       | tuple _ xs' hx ex=>
        refine .tuple _ _ hx fun i hi hi'=>?_
        have hs:xs'.size=2:=hx.symm
        have e0:=ex 0 (by decide) (by omega)
        have e1:=ex 1 (by decide) (by omega)
        match i,hi,hi' with
        | 0,_,_=>
         have e0:AH μ (.slice none 0 0) xs'[0]:=e0
         show AH μ3 (Fu H.BU 0) xs'[0]
         generalize xs'[0]=w at e0
         cases e0
         exact a3.mono b1
        | 1,_,_=>
         have e1:AH μ (.slice none 0 0) xs'[1]:=e1
         show AH μ3 (Fu (H.CQ kS).BU 0) xs'[1]
         generalize xs'[1]=w at e1
         cases e1
         exact b3
      ·simp only[List.cons.injEq,and_true]at h ⊢
       obtain⟨g1,g2,g3,g4⟩:=h
       refine⟨?_,?_,?_,?_⟩<;>rw[AA.CL,if_neg (by omega),AA.CL,if_neg (by omega)]<;>assumption
      ·rw[AA.CL,if_neg (Ne.symm n3),AA.CL,if_pos rfl]
      ·rw[AA.CL,if_pos rfl]
     ·rintro v H ⟨k1,k2,n1,n2,n3,rfl,h,g5,g6⟩
      simp only[List.cons.injEq,and_true]at h
      obtain⟨g1,g2,g3,g4⟩:=h
      have s1:=CY (s:= .table []) (bs:=[11]) (H:=H) (by simp)
      refine⟨DU (.table []) [11] H,bo (rs:=[9]) (o:= .cells [.bool true,.slice none 0 0] 0 false) .EM (hD9 _) ?_ g3 rfl rfl rfl (.refl _),10,11,12,k1,k2,by rw[hl];rfl,⟨by decide,?_,?_,?_,?_⟩,n3,?_,?_,by omega,by omega,?_,?_⟩
      ·rw[BS g1 rfl]
       show 11∈Ax H 0 199 [10,11,12] [9]
       rw[BS g2 rfl]
       show 11∈Ax H 0 198 [11,12] [9,10]
       rw[BS g3 rfl]
       exact B2 H 0 _ _ _ 11 (by simp)
      ·rw[s1.DN 9 (by simp)];exact g1
      ·rw[s1.DN 10 (by simp)];exact g2
      ·rw[s1.root 11 rfl,hl];rfl
      ·rw[s1.DN 12 (by simp)];exact g4
      ·simp;omega
      ·simp;omega
      ·rw[s1.DN k1 (by simp;omega),hl];exact g5
      ·rw[s1.DN k2 (by simp;omega),hl];exact g6
    | table l=>
     subst hl
     refine⟨_,JW (H:=BW ⟨.leaf,9⟩ (Mq m)) (b:=11) (ro:=false) (o1:=EF 13 m.now.length) (p1:= .vec Ab m.now false) (show 11 < 13 by decide) (TW m) rfl rfl,?_⟩
     rw[Rp]
     refine A4.shut (UT m m.now hn).Ko ?_
     rintro v H ⟨rfl,g9,g10,g18,g19,g20,g21,g22⟩
     have s1:=CY (s:= .table m.now) (bs:=[19,10]) (H:=H) (by simp)
     have hR:∀y,y=19∨y=10→y∈Ax H 0 200 [9] []:=by
      intro y hy
      rw[BS g9 rfl]
      show y∈Ax H 0 199 [18,19,20] [9]
      rw[BS g18 rfl]
      show y∈Ax H 0 198 [19,20] [9,18]
      rw[BS g19 rfl]
      show y∈Ax H 0 197 [10,20] [9,18,19]
      rw[BS g10 rfl]
      exact B2 H 0 _ _ _ y (by rcases hy with rfl | rfl<;>simp)
     refine⟨DU (.table m.now) [19,10] H,RX (rs:=[9]) (.table m.now) (hD9 _) (hR 19 (.inl rfl)) (hR 10 (.inr rfl)) (by decide) g19 rfl rfl rfl g10 rfl rfl rfl (.refl _),18,19,20,22,21,rfl,⟨by decide,?_,?_,?_,?_⟩,by decide,by decide,by decide,by decide,by decide,?_,?_⟩
     ·rw[s1.DN 9 (by simp)];exact g9
     ·rw[s1.DN 18 (by simp)];exact g18
     ·exact s1.root 19 rfl
     ·rw[s1.DN 20 (by simp)];exact g20
     ·rw[s1.DN 22 (by simp)];exact g22
     ·rw[s1.DN 21 (by simp)];exact g21
   ·rintro v H ⟨b,n,x,k1,k2,rfl,hM,hne,h1,h2,hk1,hk2,g1,g2⟩
    obtain⟨H2,j1,j2,j3⟩:=RR (D:=fun b=>9≤b∧b < 9+1) (v:= .tuple ⟨[Fu k1 m.now.length,Fu k2 m.now.length]⟩) (.inr ⟨Nat.le_refl 9,Nat.lt_succ_self 9⟩) hM
    refine⟨H2,j1,[k1,k2],by simp[hne],fun c hc=>by simp at hc;show 10≤c;omega,rfl,rfl,fun j c p hj hp=>?_,fun j o hj hm ho=>?_⟩
    ·cases j with
     | zero=>cases hj;cases hp;exact⟨_,rfl,by rw[j3 k1 h1];exact g1⟩
     | succ j=>cases j with
      | zero=>cases hj;cases hp;exact⟨_,rfl,by rw[j3 k2 h2];exact g2⟩
      | succ j=>cases j<;>cases hj
    ·cases j with
     | zero=>cases ho;exact⟨_,rfl,j2⟩
     | succ j=>exact absurd hj (by show ¬(j+1 < 1);omega)
  ·cases hx
 ·cases hx
end Go.AD

set_option maxRecDepth 1000000
namespace Go.AD
open Go.Proofs
theorem M6:∀a b:List UInt8,Op.bytesLess a b=true∨a=b∨Op.bytesLess b a=true:=by
 intro a
 induction a with
 | nil=>intro b;cases b with
  | nil=>exact .inr (.inl rfl)
  | cons y b=>exact .inl rfl
 | cons x a ih=>
  intro b
  cases b with
  | nil=>exact .inr (.inr rfl)
  | cons y b=>
   simp only[Op.bytesLess,Bool.or_eq_true,Bool.and_eq_true,decide_eq_true_eq,beq_iff_eq]
   rcases(show x < y∨x=y∨y < x by rcases Nat.lt_trichotomy x.toNat y.toNat with h | h | h;exact .inl (UInt8.lt_iff_toNat_lt.2 h);exact .inr (.inl (UInt8.toNat_inj.1 h));exact .inr (.inr (UInt8.lt_iff_toNat_lt.2 h)))with h | h | h
   ·exact .inl (.inl h)
   ·subst h
    rcases ih b with h | h | h
    ·exact .inl (.inr ⟨rfl,h⟩)
    ·exact .inr (.inl (by rw[h]))
    ·exact .inr (.inr (.inr ⟨rfl,h⟩))
   ·exact .inr (.inr (.inl h))
theorem Qq {a b:ByteArray} (h:a.toList=b.toList):a=b:=by
 rw[ByteArray.toList_eq,ByteArray.toList_eq]at h
 obtain⟨⟨a⟩⟩:=a
 obtain⟨⟨b⟩⟩:=b
 simp only at h
 rw[h]
theorem I2 (a:ByteArray):GV a a=false:=J9 _
theorem NS {a b:ByteArray} (h:GV a b=true):GV b a=false:=by
 cases h2:GV b a
 ·rfl
 ·have:=KL h h2
  rw[I2]at this;cases this
theorem Yf (a b:ByteArray):GV a b=true∨a=b∨GV b a=true:=by
 rcases M6 a.toList b.toList with h | h | h
 ·exact .inl h
 ·exact .inr (.inl (Qq h))
 ·exact .inr (.inr h)
theorem OL {a b:ByteArray} (h:GV a b=true):(a.toList==b.toList)=false:=by
 cases h2:a.toList==b.toList
 ·rfl
 ·have:=Qq (eq_of_beq h2)
  subst this
  rw[I2]at h;cases h
theorem HL (x:EK.C Ab) (l:List (EK.C Ab)) (k:ByteArray):AM (x::l) k=if GV x.1 k then AM l k+1 else 0:=by
 unfold AM
 rw[List.takeWhile_cons]
 split<;>rfl
inductive Xa (k:ByteArray):List (EK.C Ab)→Prop where
 | has (a b:List (EK.C Ab)) (v:ByteArray) (ha:∀x∈a,GV x.1 k=true) (hb:∀x∈b,GV k x.1=true) (hr:AM (a++(k,v)::b) k=a.length):Xa k (a++(k,v)::b)
 | none (a b:List (EK.C Ab)) (ha:∀x∈a,GV x.1 k=true) (hb:∀x∈b,GV k x.1=true) (hr:AM (a++b) k=a.length):Xa k (a++b)
theorem parts (k:ByteArray):∀l:List (EK.C Ab),BE l→Xa k l:=by
 intro l
 induction l with
 | nil=>intro _;exact .none [] [] (fun x hx=>by cases hx) (fun x hx=>by cases hx) rfl
 | cons x l ih=>
  intro hs
  have hs':=List.pairwise_cons.1 hs
  cases hx:GV x.1 k
  ·rcases Yf x.1 k with h | h | h
   ·rw[hx]at h;cases h
   ·obtain⟨x1,x2⟩:=x
    simp only at h
    subst h
    exact .has [] l x2 (fun x hx=>by cases hx) (fun y hy=>hs'.1 y hy) (by rw[List.nil_append,HL,if_neg (by rw[hx];simp)];rfl)
   ·refine .none [] (x::l) (fun x hx=>by cases hx) (fun y hy=>?_) (by rw[List.nil_append,HL,if_neg (by rw[hx];simp)];rfl)
    rcases List.mem_cons.1 hy with rfl | hy
    ·exact h
    ·exact KL h (hs'.1 y hy)
  ·cases ih hs'.2 with
   | has a b v ha hb hr=>
    refine .has (x::a) b v (fun y hy=>?_) hb (by rw[List.cons_append,HL,if_pos hx,hr];rfl)
    rcases List.mem_cons.1 hy with rfl | hy
    ·exact hx
    ·exact ha y hy
   | none a b ha hb hr=>
    refine .none (x::a) b (fun y hy=>?_) hb (by rw[List.cons_append,HL,if_pos hx,hr];rfl)
    rcases List.mem_cons.1 hy with rfl | hy
    ·exact hx
    ·exact ha y hy
theorem LU (a b:List (EK.C Ab)) (x:EK.C Ab):(a++x::b).getD a.length (EK.AQ Ab)=x:=by
 rw[List.getD_eq_getElem?_getD,List.getElem?_append_right (Nat.le_refl _),Nat.sub_self];rfl
theorem Js {k:ByteArray} {a b:List (EK.C Ab)} (ha:∀x∈a,GV x.1 k=true) (hb:∀x∈b,GV k x.1=true):ET (a++b) k=a∧Dk (a++b) k=b:=by
 have e1:ET a k=a:=List.filter_eq_self.2 fun x hx=>ha x hx
 have e2:ET b k=[]:=List.filter_eq_nil_iff.2 fun x hx=>by
  have:=NS (hb x hx)
  unfold GV at this;rw[this];simp
 have e3:Dk a k=[]:=List.filter_eq_nil_iff.2 fun x hx=>by
  have h1:=ha x hx
  unfold GV at h1
  unfold YN;rw[h1];simp
 have e4:Dk b k=b:=List.filter_eq_self.2 fun x hx=>by
  have h1:=NS (hb x hx)
  have h2:=OL (hb x hx)
  unfold GV at h1
  have h3:(ByteArray.toList x.1==ByteArray.toList k)=false:=by
   cases h:ByteArray.toList x.1==ByteArray.toList k
   ·rfl
   ·rw[beq_iff_eq]at h;rw[h]at h2;simp at h2
  unfold YN;rw[h1,h3];rfl
 constructor
 ·unfold ET at *;rw[List.filter_append,e1,e2,List.append_nil]
 ·unfold Dk at *;rw[List.filter_append,e3,e4,List.nil_append]
theorem YJ (k v:ByteArray):YN ((k,v):EK.C Ab).1 k=false:=by
 unfold YN;simp
theorem Si {k v:ByteArray} {a b:List (EK.C Ab)} (ha:∀x∈a,GV x.1 k=true) (hb:∀x∈b,GV k x.1=true):ET (a++(k,v)::b) k=a∧Dk (a++(k,v)::b) k=b:=by
 obtain⟨h1,h2⟩:=Js ha hb
 have hk:GV k k=false:=I2 k
 unfold GV at hk
 constructor
 ·conv=>rhs;rw[←h1]
  unfold ET
  rw[List.filter_append,List.filter_append,List.filter_cons_of_neg (by show ¬Op.bytesLess (ByteArray.toList k) (ByteArray.toList k)=true;rw[hk];simp)]
 ·conv=>rhs;rw[←h2]
  unfold Dk
  rw[List.filter_append,List.filter_append,List.filter_cons_of_neg (by rw[YJ k v];simp)]
theorem KQ {k v:ByteArray} {a b:List (EK.C Ab)} (hr:AM (a++(k,v)::b) k=a.length):DA (a++(k,v)::b) k=some v:=by
 unfold DA
 rw[hr,LU,if_pos ⟨by simp,by simp⟩]
theorem H6 {k:ByteArray} {a b:List (EK.C Ab)} (hb:∀x∈b,GV k x.1=true) (hr:AM (a++b) k=a.length):DA (a++b) k=none:=by
 unfold DA
 rw[hr,if_neg]
 rintro⟨h1,h2⟩
 cases b with
 | nil=>simp at h1
 | cons y b=>
  rw[LU]at h2
  have:=OL (hb y (by simp))
  rw[beq_iff_eq]at h2
  rw[h2]at this
  simp at this
theorem QE {l:List (EK.C Ab)} (hs:BE l) (k:ByteArray):DB l k=DA l k:=by
 have hf:∀a b:List (EK.C Ab),(∀x∈a,GV x.1 k=true)→(a++b).find? (fun x=>ByteArray.toList x.1==ByteArray.toList k)=b.find? (fun x=>ByteArray.toList x.1==ByteArray.toList k):=by
  intro a b ha
  rw[List.find?_append,List.find?_eq_none.2 (fun x hx=>by rw[OL (ha x hx)];simp)];rfl
 cases parts k l hs with
 | has a b v ha hb hr=>
  rw[KQ hr]
  unfold DB
  rw[hf a _ ha,List.find?_cons_of_pos (by simp)];rfl
 | none a b ha hb hr=>
  rw[H6 hb hr]
  unfold DB
  rw[hf a _ ha,List.find?_eq_none.2 (fun x hx=>?_)]
  ·rfl
  ·have h2:=OL (hb x hx)
   intro h;rw[beq_iff_eq]at h;rw[h]at h2;simp at h2
theorem DE (a b:List (EK.C Ab)):BF (a++b)=BF a+BF b:=by
 unfold BF;rw[List.map_append,List.sum_append]
theorem E3 (x:EK.C Ab) (b:List (EK.C Ab)):BF (x::b)=Cd x+BF b:=by
 unfold BF;rw[List.map_cons,List.sum_cons]
theorem N8 {l:List (EK.C Ab)} (hs:BE l) (k v:ByteArray):EY l k v=BY l 1 k v∧BE (BY l 1 k v)∧(BY l 1 k v).length≤l.length+1∧(∀x∈BY l 1 k v,x∈l∨x=(k,v))∧
 BF (BY l 1 k v)=(match DA l k with | some o=>BF l - Cd (k,o) | none=>BF l)+Cd (k,v):=by
 have hso:∀a b:List (EK.C Ab),BE (a++b)→(∀x∈a,GV x.1 k=true)→(∀x∈b,GV k x.1=true)→BE (a++(k,v)::b):=by
  intro a b h ha hb
  obtain⟨h1,h2,h3⟩:=List.pairwise_append.1 h
  refine List.pairwise_append.2 ⟨h1,List.pairwise_cons.2 ⟨hb,h2⟩,fun x hx y hy=>?_⟩
  rcases List.mem_cons.1 hy with rfl | hy
  ·exact ha x hx
  ·exact h3 x hx y hy
 cases parts k l hs with
 | has a b w ha hb hr=>
  obtain⟨e1,e2⟩:=Si (v:=w) ha hb
  have hw:BY (a++(k,w)::b) 1 k v=a++(k,v)::b:=by
   unfold BY;rw[e1,e2]
   show(a++[(k,v)])++b=_
   rw[List.append_assoc];rfl
  have hab:BE (a++b):=by
   obtain⟨h1,h2,h3⟩:=List.pairwise_append.1 hs
   exact List.pairwise_append.2 ⟨h1,(List.pairwise_cons.1 h2).2,fun x hx y hy=>h3 x hx y (by simp[hy])⟩
  rw[hw]
  refine⟨?_,hso a b hab ha hb,by simp,fun x hx=>?_,?_⟩
  ·unfold EY
   rw[KQ hr,hr,LU]
   simp only
   rw[List.set_append_right _ _ (Nat.le_refl _),Nat.sub_self];rfl
  ·simp only[List.mem_append,List.mem_cons]at hx ⊢
   rcases hx with h | h | h
   ·exact .inl (.inl h)
   ·exact .inr h
   ·exact .inl (.inr (.inr h))
  ·rw[KQ hr]
   simp only
   rw[DE,DE,E3,E3];omega
 | none a b ha hb hr=>
  obtain⟨e1,e2⟩:=Js ha hb
  have hw:BY (a++b) 1 k v=a++(k,v)::b:=by
   unfold BY;rw[e1,e2]
   show(a++[(k,v)])++b=_
   rw[List.append_assoc];rfl
  rw[hw]
  refine⟨?_,hso a b hs ha hb,by simp only[List.length_append,List.length_cons];omega,fun x hx=>?_,?_⟩
  ·unfold EY
   rw[H6 hb hr,hr]
   simp only
   rw[List.take_left,List.drop_left];rfl
  ·simp only[List.mem_append,List.mem_cons]at hx ⊢
   rcases hx with h | h | h
   ·exact .inl (.inl h)
   ·exact .inr h
   ·exact .inl (.inr h)
  ·rw[H6 hb hr]
   simp only
   rw[DE,DE,E3];omega
theorem TR {l:List (EK.C Ab)} (hs:BE l) (k v:ByteArray):Et l k=BY l 3 k v∧BE (BY l 3 k v)∧(BY l 3 k v).length≤l.length∧(∀x∈BY l 3 k v,x∈l)∧
 BF (BY l 3 k v)=(match DA l k with | some o=>BF l - Cd (k,o) | none=>BF l):=by
 cases parts k l hs with
 | has a b w ha hb hr=>
  obtain⟨e1,e2⟩:=Si (v:=w) ha hb
  have hw:BY (a++(k,w)::b) 3 k v=a++b:=by unfold BY;rw[e1,e2];rfl
  rw[hw]
  refine⟨?_,?_,by simp,fun x hx=>?_,?_⟩
  ·unfold Et
   rw[KQ hr,hr]
   simp only
   rw[List.take_left,←List.drop_drop,List.drop_left];rfl
  ·obtain⟨h1,h2,h3⟩:=List.pairwise_append.1 hs
   exact List.pairwise_append.2 ⟨h1,(List.pairwise_cons.1 h2).2,fun x hx y hy=>h3 x hx y (by simp[hy])⟩
  ·simp only[List.mem_append,List.mem_cons]at hx ⊢
   rcases hx with h | h
   ·exact .inl h
   ·exact .inr (.inr h)
  ·rw[KQ hr]
   simp only
   rw[DE,DE,E3];omega
 | none a b ha hb hr=>
  obtain⟨e1,e2⟩:=Js ha hb
  have hw:BY (a++b) 3 k v=a++b:=by unfold BY;rw[e1,e2];rfl
  rw[hw]
  refine⟨?_,hs,Nat.le_refl _,fun x hx=>hx,?_⟩
  ·unfold Et;rw[H6 hb hr]
  ·rw[H6 hb hr]
end Go.AD

set_option maxRecDepth 1000000
namespace Go.AD
open Go.Proofs
theorem RN {f:FuncId} {n:Nat} (he:entry Tryz.prog f=some (n,Bb Tryz.prog f [])) {q:Co}
 (hF:∀args,q.ok args→args.all flat=true∧args.length≤n∧flat (q.v args)=true∧∃fs,Aw Tryz.prog CE fs∧As (Cp Tryz.prog CE fs) 20 f (fun v' _=>v'=q.v args) (st f n args (F3 CE 20))):Da Tryz.prog CE f q.F:=by
 refine⟨⟨n,_,he⟩,?_⟩
 intro base W0 μ H W args args' v H' hW hH hl ha hFv
 unfold Co.F at hFv
 split at hFv
 ·rename_i hq
  cases hFv
  obtain⟨h1,h2,h3,fs,hfs,h4⟩:=hF args hq
  have hW1:DR (Cp Tryz.prog CE fs) (base.at W) W:=by
   have:=hW.carry hH
   unfold DR at this ⊢
   exact this
  obtain⟨s1,s2⟩:=OI (X:=Cp Tryz.prog CE fs) hW1 (none_le _) (fun _ hi=>hi) (n:=20) (OU (by kernel_rfl))
  have hargs:args'.toList=args:=EJ args _ h1 ha
  intro cs
  obtain⟨c',⟨v2,Hf,hd,rfl⟩,μ1,fr1,cs1,W1,st,m1⟩:=h4 (base.at W) W (fun b T hb=>by cases hb) (hfs.FL _ _ hW1) (FY (by kernel_rfl) rfl) cs _ _ [] W (Gr s1 s2 he (by rw[hargs];exact Ek args h1) h2)
  obtain⟨rfl,hf,v',e1,e2,e3⟩:=Hn m1 hd
  have hs':Steps (Cp Tryz.prog CE fs).P (lone (Frame.enter (Cp Tryz.prog CE fs).P f args' .normal) cs W) (lone fr1 cs W1):=by simpa using st
  refine⟨.returned v',W1,fr1,⟨v',μ,rfl,hH.carry (HO e2) e2.below e2.out e2.os,?_,Ac.refl _ _⟩,hs',hf,e1⟩
  rw[FU h3 e3];exact Cc h3
 ·cases hFv
def QL:ByteArray:={ data:=#[48,49,50,51,52,53,54,55,56,57,97,98,99,100,101,102] }
def dS (i:Nat):ByteArray:=⟨(([[97],[98],[99],[97,98],[107,49]]:List (List UInt8)).getD i []).toArray⟩
def Vi (val:Int):ByteArray:=ByteArray.extract QL 0 (Int.toNat (Int.tmod val 17))
noncomputable def Oy (s:ByteArray) (kind val:Int) (Q:Value→List (Option AJ)→Prop):Prop:=
 (bif decide (Int.tmod kind 8 < 4)then
  (bif decide (0≤Int.tmod val 17)&&Nat.ble (Int.toNat (Int.tmod val 17)) (ByteArray.size QL)&&decide ((0:Int)≤0)&&Nat.ble 0 (Int.toNat (Int.tmod val 17))then
   (Q (IX 1 0 0 s (Vi val)) [])
  else False)
 else
  (bif decide (Int.tmod kind 8 < 6)then(Q (IX 3 0 0 s { data:=#[] }) [])
  else
   (bif Int.tmod kind 8==6 then(Q (IX 4 0 0 { data:=#[] } { data:=#[] }) [])
   else(Q (IX 2 0 0 s { data:=#[] }) []))))
theorem bW (kind val:Int) (Q:Value→List (Option AJ)→Prop):(List.range 256).map (fun key=>Gv X0 Cv BH [] Q 300 (st BH 35 [.agg ⟨[.int .u8 kind,.int .u8 (Int.ofNat key),.int .u8 val]⟩] (F3 AL 20)))=(List.range 256).map (fun key=>Oy (dS (key % 5)) kind val Q):=by kernel_rfl
end Go.AD

set_option maxRecDepth 1000000
namespace Go.AD
open Go.Proofs
def aK (kind:Int):Int:=bif decide (Int.tmod kind 8 < 4)then 1 else bif decide (Int.tmod kind 8 < 6)then 3 else bif Int.tmod kind 8==6 then 4 else 2
def aS (kind key:Int):ByteArray:=bif aK kind==4 then { data:=#[] } else dS (key.toNat % 5)
def aV (kind val:Int):ByteArray:=bif aK kind==1 then Vi val else { data:=#[] }
def Gk (x:Int):Prop:=0≤x∧x < 256
noncomputable def qOp:Co where
 ok:=fun args=>match args with
  | [.agg ⟨[.int .u8 kind,.int .u8 key,.int .u8 val]⟩]=>Gk kind∧Gk key∧Gk val
  | _=>False
 v:=fun args=>match args with
  | [.agg ⟨[.int .u8 kind,.int .u8 key,.int .u8 val]⟩]=>IX (aK kind) 0 0 (aS kind key) (aV kind val)
  | _=>A5
theorem cD {val:Int} (h:Gk val):0≤Int.tmod val 17∧Int.tmod val 17 < 17:=by
 obtain⟨h1,_⟩:=h
 rw[Int.tmod_eq_emod_of_nonneg h1]
 exact⟨Int.emod_nonneg _ (by decide),Int.emod_lt_of_pos _ (by decide)⟩
theorem Yi {kind key val:Int} (hv:Gk val):Oy (dS (key.toNat % 5)) kind val (fun v _=>v=IX (aK kind) 0 0 (aS kind key) (aV kind val)):=by
 obtain⟨h1,h2⟩:=cD hv
 have hb:(decide (0≤Int.tmod val 17)&&Nat.ble (Int.toNat (Int.tmod val 17)) (ByteArray.size QL)&&decide ((0:Int)≤0)&&Nat.ble 0 (Int.toNat (Int.tmod val 17)))=true:=by
  have e1:ByteArray.size QL=16:=rfl
  rw[e1,decide_eq_true h1,Nat.ble_eq_true_of_le (by omega),Nat.ble_eq_true_of_le (Nat.zero_le _)];rfl
 unfold Oy aV aS aK
 rw[hb]
 cases decide (Int.tmod kind 8 < 4)
 ·cases decide (Int.tmod kind 8 < 6)
  ·cases Int.tmod kind 8==6<;>rfl
  ·rfl
 ·rfl
theorem ZH {kind key val:Int} (h2:Gk key) (h3:Gk val):B8 X0 BH (fun v _=>v=IX (aK kind) 0 0 (aS kind key) (aV kind val)) (st BH 35 [.agg ⟨[.int .u8 kind,.int .u8 key,.int .u8 val]⟩] (F3 AL 20)):=by
 refine B6 (Av X0) (ids:=[]) (Q:=fun v _=>v=IX (aK kind) 0 0 (aS kind key) (aV kind val)) 300 _ ?_
 obtain⟨k,rfl⟩:=Int.eq_ofNat_of_zero_le h2.1
 have hk:k < 256:=by have:=h2.2;omega
 have h:=List.map_inj_left.1 (bW kind val (fun v _=>v=IX (aK kind) 0 0 (aS kind (k:Int)) (aV kind val))) k (List.mem_range.2 hk)
 have h:Gv X0 Cv BH [] (fun v _=>v=IX (aK kind) 0 0 (aS kind (k:Int)) (aV kind val)) 300 (st BH 35 [.agg ⟨[.int .u8 kind,.int .u8 (k:Int),.int .u8 val]⟩] (F3 AL 20))=Oy (dS (k % 5)) kind val (fun v _=>v=IX (aK kind) 0 0 (aS kind (k:Int)) (aV kind val)):=h
 rw[h]
 have:=Yi (kind:=kind) (key:=(k:Int)) (val:=val) h3
 rwa [Int.toNat_natCast]at this
theorem dL:Da Tryz.prog AL BH qOp.F:=by
 refine RN (n:=35) (by kernel_rfl) fun args h=>?_
 unfold qOp at h
 simp only at h
 split at h
 ·rename_i kind key val
  refine⟨rfl,by simp,rfl,[],Aw.nil _ _,?_⟩
  exact(ZH h.2.1 h.2.2).Gq
 ·exact h.elim
end Go.AD

set_option maxRecDepth 1000000
namespace Go.AD
open Go.Proofs
noncomputable def Pe (cfg:List Int) (m y n:Nat):List Value:=
 [.pointer (some ⟨m,0,none⟩),.int .i64 (cfg.getD 0 0),.int .i64 (cfg.getD 1 0),.int .i64 (cfg.getD 2 0),.int .i64 (cfg.getD 3 0),.int .i64 (cfg.getD 4 0),.int .i64 (cfg.getD 5 0),.int .i64 (cfg.getD 6 0),.slice (some ⟨y,0,some 0⟩) n AF]
noncomputable def KP (x:Value) (p:FJ):FJ:=fun args H K=>match args with
 | a::r=>a=x∧p (x::r) H K
 | []=>False
noncomputable def Jm:IV:=⟨fun _ rest=>rest=[],fun m _=> .int .i64 m.cost,fun m _=>m⟩
noncomputable def WT:IV:=⟨fun _ rest=>rest=[],fun m _=> .int .i64 m.AG.length,fun m _=>m⟩
noncomputable def eb (cfg:List Int) (m:AB) (n:Nat) (l:List (EK.C [.tok])) (cur:List (EK.C Ab)):AA:=BW ⟨.leaf,9⟩ [.cells (Pe cfg 10 11 (n+1)) 0 false,.abs (.pack (.model m)) false,.vec [.tok] l false,.vec Ab cur false]
noncomputable def dO (cfg:List Int) (m:AB) (n:Nat) (cur:List (EK.C Ab)):AA:=eb cfg m n (Ad n 12 cur.length) cur
noncomputable def DZ (cur:List (EK.C Ab)):Value:= .slice (some ⟨12,0,some 0⟩) cur.length AF
theorem We (m:AB) (Q:Value→List (Option AJ)→Prop):Gv XM Vb B1 [9,10,11,12] Q 100 (st B1 10 [p9] (BW ⟨.leaf,9⟩ (Mq m)))=(
 (Q (.int .i64 (AB.cost m)) [some (.cells [(.int .i64 (List.getD (AB.cfg m) 0 0)),(.int .i64 (List.getD (AB.cfg m) 1 0)),(.int .i64 (List.getD (AB.cfg m) 2 0)),(.int .i64 (List.getD (AB.cfg m) 3 0)),(.int .i64 (List.getD (AB.cfg m) 4 0)),(.int .i64 (List.getD (AB.cfg m) 5 0)),(.int .i64 (List.getD (AB.cfg m) 6 0)),(.int .i64 (AB.AS m)),(.pointer (some ⟨10,0,none⟩)),(.pointer (some ⟨11,0,none⟩)),(.int .i64 (AB.cost m)),(.slice (some ⟨12,0,(some 0)⟩) (List.length (AB.AG m)) 18446744073709551616),(.pointer none),(.int .i64 (AB.state m)),(.bool (AB.AK m))] 0 false),some (.abs (AZ.pack (Pk.table (AB.base m))) false),some (.abs (AZ.pack (Pk.table (AB.now m))) false),some (.vec CW (AB.AG m) false)])):=by kernel_rfl
theorem aY (m:AB) (Q:Value→List (Option AJ)→Prop):Gv XM Vb BZ [9,10,11,12] Q 100 (st BZ 11 [p9] (BW ⟨.leaf,9⟩ (Mq m)))=(
 (Q (.int .i64 (Int.ofNat (List.length (AB.AG m)))) [some (.cells [(.int .i64 (List.getD (AB.cfg m) 0 0)),(.int .i64 (List.getD (AB.cfg m) 1 0)),(.int .i64 (List.getD (AB.cfg m) 2 0)),(.int .i64 (List.getD (AB.cfg m) 3 0)),(.int .i64 (List.getD (AB.cfg m) 4 0)),(.int .i64 (List.getD (AB.cfg m) 5 0)),(.int .i64 (List.getD (AB.cfg m) 6 0)),(.int .i64 (AB.AS m)),(.pointer (some ⟨10,0,none⟩)),(.pointer (some ⟨11,0,none⟩)),(.int .i64 (AB.cost m)),(.slice (some ⟨12,0,(some 0)⟩) (List.length (AB.AG m)) 18446744073709551616),(.pointer none),(.int .i64 (AB.state m)),(.bool (AB.AK m))] 0 false),some (.abs (AZ.pack (Pk.table (AB.base m))) false),some (.abs (AZ.pack (Pk.table (AB.now m))) false),some (.vec CW (AB.AG m) false)])):=by kernel_rfl
def GN (m:AB) (k a b:Int) (key val:ByteArray) (e:Int) (sv:ByteArray):Prop:=m.cfg.length=7∧m.state=0∧m.AK=false∧Gl k a b key val∧BE m.now∧m.now.length < 900000∧m.AG.length < 1000000∧((k==7)=true→(e==0&&(ByteArray.toList sv==ByteArray.toList { data:=#[] }&&true))=false)
noncomputable def DH (m:AB) (k a b:Int) (key val:ByteArray) (e:Int) (sv:ByteArray):AB:=(I3 m k a b key val e sv).getD m
noncomputable def dV (m:AB) (k a b:Int) (key val:ByteArray) (e:Int) (sv:ByteArray):Bool:=(I3 m k a b key val e sv).isSome
noncomputable def Dj (m:AB) (k a b:Int) (key val:ByteArray) (e:Int) (sv:ByteArray):Int:=bif dV m k a b key val e sv then 0 else 7
noncomputable def fD (args:List Value) (objs:List AJ):GT:=
 match args,objs with
 | [.pointer (some ⟨9,0,none⟩),.agg ⟨[.int .i64 k,.int .i64 a,.int .i64 b,.string key,.string val]⟩,.agg ⟨[.int .i64 e,.string sv]⟩],[.abs (.pack (.model m)) _]=>
  .ask (GN m k a b key val e sv) (.ret ⟨.int .i64 (Dj m k a b key val e sv),[some (.abs (.pack (.model (DH m k a b key val e sv))) false)],[]⟩)
 | _,_=> .fail
noncomputable abbrev eC:List (FuncId × Cn):=[(BH,qOp.F),(Ao,A3 AL 9 [] Oq),(Al,A3 AL 9 [] TJ),(Am,A3 AL 9 [] Nd),(Ba,A3 AL 9 [true] O0),(BC,A3 AL 9 [true] fD)]
noncomputable def Q8:Ctx:=Cp Tryz.prog AL eC
noncomputable def dF (k:Int) (s v:ByteArray):FJ:=fun args H K=>match args with
 | [.agg ⟨[.int .u8 kind,.int .u8 key,.int .u8 val]⟩]=>((Gk kind∧Gk key∧Gk val)∧aK kind=k∧aS kind key=s∧aV kind val=v)∧K (IX k 0 0 s v) H
 | _=>False
noncomputable def Ny (x:Value) (k:Int) (s v:ByteArray):Pf:=fun g=>bif Nat.beq g BH then some (dF k s v)else bif Nat.beq g Ao then some (KP x (B0 AL 9 [] Oq))else bif Nat.beq g Al then some (KP x (B0 AL 9 [] TJ))else
 bif Nat.beq g Am then some (B0 AL 9 [] Nd)else bif Nat.beq g Ba then some (B0 AL 9 [true] O0)else bif Nat.beq g BC then some (B0 AL 9 [true] fD)else Cv g
noncomputable def Gw (cfg:List Int) (m:AB) (n:Nat) (l:List (EK.C [.tok])) (cur:List (EK.C Ab)) (k a b:Int) (key val:ByteArray) (we:Int) (wv:ByteArray) (u:Bool) (e:Int):Ay:=
 ⟨⟨AI,Ib [(0,p9),(5,JH 13),(8,JH 14),(9,.bool u),(10,.int .i64 e)],116,[.code (Bb Tryz.prog AI [1,1,1,1,1,1,0,1,0,0]),.inLoop (Bb Tryz.prog AI [1,1,1,1,1,1,0,1,0,0]),.inBlock 1,.code (Bb Tryz.prog AI [1,1,1,1,1,1,1])],[],false,.normal,none⟩,[],
  ((eb cfg m n l cur).alloc (ZN k a b key val)).alloc (.cells [.int .i64 we,.string wv] 0 false)⟩
def P6:Stop:=⟨AI,0,3,13,[9,10,11,12],[0,5,8,9,10]⟩
noncomputable def FE (ids:List Nat) (n:Nat) (cur:List (EK.C Ab)):List (EK.C [.tok]):=List.map (PF (LP 13 ids)) (Ad n 12 cur.length)
theorem Zn (cfg:List Int) (m:AB) (n:Nat) (cur:List (EK.C Ab)) (kind key val:Int) (s v:ByteArray) (Q:Value→List (Option AJ)→Prop) (R:Ay→Prop):JI Q8 (Ny (DZ cur) 1 s v) AI [9,10,11,12] P6 Q R 400 (st AI 116 [p9,.agg ⟨[.int .u8 kind,.int .u8 key,.int .u8 val]⟩] (dO cfg m n cur))=(
 ((Gk kind∧Gk key∧Gk val)∧aK kind=1∧aS kind key=s∧aV kind val=v)∧(bif decide (0≤IntKind.wrap .i64 (Int.ofNat (n+1) - 1))&&Nat.blt (Int.toNat (IntKind.wrap .i64 (Int.ofNat (n+1) - 1))) (n+1)then(bif Nat.blt (0+Int.toNat (IntKind.wrap .i64 (Int.ofNat (n+1) - 1))) (List.length (Ad n 12 (List.length cur)))&&GO (SK.enc SK.tok (List.getD (Ad n 12 (List.length cur)) (0+Int.toNat (IntKind.wrap .i64 (Int.ofNat (n+1) - 1))) (EK.AQ [SK.tok])))then(((.string s):Value)=(.string s))∧(((.pointer (some ⟨14,3,none⟩)):Value)=(.pointer (some ⟨14,3,none⟩)))∧(((.slice (Dn (SK.enc SK.tok (List.getD (Ad n 12 (List.length cur)) (0+Int.toNat (IntKind.wrap .i64 (Int.ofNat (n+1) - 1))) (EK.AQ [SK.tok])))) (Dq (SK.enc SK.tok (List.getD (Ad n 12 (List.length cur)) (0+Int.toNat (IntKind.wrap .i64 (Int.ofNat (n+1) - 1))) (EK.AQ [SK.tok])))) (Ds (SK.enc SK.tok (List.getD (Ad n 12 (List.length cur)) (0+Int.toNat (IntKind.wrap .i64 (Int.ofNat (n+1) - 1))) (EK.AQ [SK.tok]))))):Value)=(.slice (some ⟨12,0,(some 0)⟩) (List.length cur) 18446744073709551616))∧((List.length cur=List.length cur∧AF=AF)∧List.length cur < 1000000)∧(bif Option.isSome (DB cur s)then(((.bool (Option.isSome (DB cur s))):Value)=(.bool true))∧(bif decide (0≤IntKind.wrap .i64 (Int.ofNat (n+1) - 1))&&Nat.blt (Int.toNat (IntKind.wrap .i64 (Int.ofNat (n+1) - 1))) (n+1)then(bif Nat.blt (0+Int.toNat (IntKind.wrap .i64 (Int.ofNat (n+1) - 1))) (List.length (Ad n 12 (List.length cur)))&&GO (SK.enc SK.tok (List.getD (Ad n 12 (List.length cur)) (0+Int.toNat (IntKind.wrap .i64 (Int.ofNat (n+1) - 1))) (EK.AQ [SK.tok])))then(((.pointer (some ⟨9,0,none⟩)):Value)=(.pointer (some ⟨9,0,none⟩)))∧(((.agg ⟨[(.int .i64 1),(.int .i64 0),(.int .i64 0),(.string s),(.string v)]⟩):Value)=(.agg ⟨[(.int .i64 1),(.int .i64 0),(.int .i64 0),(.string s),(.string v)]⟩))∧(((.slice (Dn (SK.enc SK.tok (List.getD (Ad n 12 (List.length cur)) (0+Int.toNat (IntKind.wrap .i64 (Int.ofNat (n+1) - 1))) (EK.AQ [SK.tok])))) (Dq (SK.enc SK.tok (List.getD (Ad n 12 (List.length cur)) (0+Int.toNat (IntKind.wrap .i64 (Int.ofNat (n+1) - 1))) (EK.AQ [SK.tok])))) (Ds (SK.enc SK.tok (List.getD (Ad n 12 (List.length cur)) (0+Int.toNat (IntKind.wrap .i64 (Int.ofNat (n+1) - 1))) (EK.AQ [SK.tok]))))):Value)=(.slice (some ⟨12,0,(some 0)⟩) (List.length cur) 18446744073709551616))∧((List.length cur=List.length cur∧AF=AF)∧List.length cur < 400000)∧(((.pointer (some ⟨9,0,none⟩)):Value)=(.pointer (some ⟨9,0,none⟩)))∧((List.length (BY cur 1 s v)=List.length (BY cur 1 s v)∧AF=AF)∧Gz (BY cur 1 s v))∧(((.pointer (some ⟨9,0,none⟩)):Value)=(.pointer (some ⟨9,0,none⟩)))∧(bif decide (BF (BY cur 1 s v)≤IntKind.wrap .i64 (Int.tdiv (IntKind.wrap .i64 (IntKind.wrap .i64 (IntKind.wrap .i64 (List.getD cfg 0 0 - List.getD cfg 2 0) - 2) * 84)) 2))then(R (Gw cfg m n (FE [14,15] n cur) cur 1 0 0 s v 0 ({ data:=#[] }) true 0))else(R (Gw cfg m n (FE [14,15] n cur) cur 1 0 0 s v 4 ({ data:=#[] }) false 0)))else False)else False)else(((.bool (Option.isSome (DB cur s))):Value)=(.bool false))∧(bif decide (0≤IntKind.wrap .i64 (Int.ofNat (n+1) - 1))&&Nat.blt (Int.toNat (IntKind.wrap .i64 (Int.ofNat (n+1) - 1))) (n+1)then(bif Nat.blt (0+Int.toNat (IntKind.wrap .i64 (Int.ofNat (n+1) - 1))) (List.length (Ad n 12 (List.length cur)))&&GO (SK.enc SK.tok (List.getD (Ad n 12 (List.length cur)) (0+Int.toNat (IntKind.wrap .i64 (Int.ofNat (n+1) - 1))) (EK.AQ [SK.tok])))then
 (((.pointer (some ⟨9,0,none⟩)):Value)=(.pointer (some ⟨9,0,none⟩)))∧(((.agg ⟨[(.int .i64 1),(.int .i64 0),(.int .i64 0),(.string s),(.string v)]⟩):Value)=(.agg ⟨[(.int .i64 1),(.int .i64 0),(.int .i64 0),(.string s),(.string v)]⟩))∧(((.slice (Dn (SK.enc SK.tok (List.getD (Ad n 12 (List.length cur)) (0+Int.toNat (IntKind.wrap .i64 (Int.ofNat (n+1) - 1))) (EK.AQ [SK.tok])))) (Dq (SK.enc SK.tok (List.getD (Ad n 12 (List.length cur)) (0+Int.toNat (IntKind.wrap .i64 (Int.ofNat (n+1) - 1))) (EK.AQ [SK.tok])))) (Ds (SK.enc SK.tok (List.getD (Ad n 12 (List.length cur)) (0+Int.toNat (IntKind.wrap .i64 (Int.ofNat (n+1) - 1))) (EK.AQ [SK.tok]))))):Value)=(.slice (some ⟨12,0,(some 0)⟩) (List.length cur) 18446744073709551616))∧((List.length cur=List.length cur∧AF=AF)∧List.length cur < 400000)∧(((.pointer (some ⟨9,0,none⟩)):Value)=(.pointer (some ⟨9,0,none⟩)))∧((List.length (BY cur 1 s v)=List.length (BY cur 1 s v)∧AF=AF)∧Gz (BY cur 1 s v))∧(((.pointer (some ⟨9,0,none⟩)):Value)=(.pointer (some ⟨9,0,none⟩)))∧(bif decide (BF (BY cur 1 s v)≤IntKind.wrap .i64 (Int.tdiv (IntKind.wrap .i64 (IntKind.wrap .i64 (IntKind.wrap .i64 (List.getD cfg 0 0 - List.getD cfg 2 0) - 2) * 84)) 2))then(R (Gw cfg m n (FE [14,15] n cur) cur 1 0 0 s v 0 ({ data:=#[] }) true 0))else(R (Gw cfg m n (FE [14,15] n cur) cur 1 0 0 s v 4 ({ data:=#[] }) false 0)))else False)else False))else False)else False)):=by kernel_rfl
theorem X4 (cfg:List Int) (m:AB) (n:Nat) (cur:List (EK.C Ab)) (s v:ByteArray) (we:Int) (wv:ByteArray) (u:Bool) (e:Int) (Q:Value→List (Option AJ)→Prop) (R:Ay→Prop):JI Q8 (Ny (DZ cur) 1 s v) AI [9,10,11,12,16,17,18] P6 Q R 600 (Gw cfg m n (Ad n 12 cur.length) cur 1 0 0 s v we wv u e)=(
 (bif decide (e≤17)then(bif !(e==we&&(ByteArray.toList { data:=#[] }==ByteArray.toList wv&&true))then(bif e != 11 then(List.length (AB.base m) < 1000000∧List.length (AB.now m) < 1000000∧List.length (AB.AG m) < 1000000)∧(((.agg ⟨[(.int .i64 e),(.string ({ data:=#[] }))]⟩):Value)=(.agg ⟨[(.int .i64 e),(.string ({ data:=#[] }))]⟩))∧(((.agg ⟨[(.int .i64 1),(.int .i64 0),(.int .i64 0),(.string s),(.string v)]⟩):Value)=(.agg ⟨[(.int .i64 1),(.int .i64 0),(.int .i64 0),(.string s),(.string v)]⟩))∧(GN m 1 0 0 s v e { data:=#[] })∧(bif Dj m 1 0 0 s v e { data:=#[] } != 7 then(Q (.bool false) [some (.cells [(.pointer (some ⟨10,0,none⟩)),(.int .i64 (List.getD cfg 0 0)),(.int .i64 (List.getD cfg 1 0)),(.int .i64 (List.getD cfg 2 0)),(.int .i64 (List.getD cfg 3 0)),(.int .i64 (List.getD cfg 4 0)),(.int .i64 (List.getD cfg 5 0)),(.int .i64 (List.getD cfg 6 0)),(.slice (some ⟨11,0,(some 0)⟩) (n+1) 18446744073709551616)] 0 false),some (.abs (AZ.pack (Pk.model m)) false),some (.vec [SK.tok] (Ad n 12 (List.length cur)) false),some (.vec Ab cur false),some (.abs (AZ.pack (Pk.model (DH m 1 0 0 s v e { data:=#[] }))) false),none,none])else(R (Gw cfg m n (FE [13,14] n cur) cur 1 0 0 s v we wv u (IntKind.wrap .i64 (e+1)))))else(R (Gw cfg m n (FE [13,14] n cur) cur 1 0 0 s v we wv u (IntKind.wrap .i64 (e+1)))))else(R (Gw cfg m n (FE [13,14] n cur) cur 1 0 0 s v we wv u (IntKind.wrap .i64 (e+1)))))else(bif u then(List.length (AB.base m) < 1000000∧List.length (AB.now m) < 1000000∧List.length (AB.AG m) < 1000000)∧(((.bool u):Value)=(.bool true))∧(((.agg ⟨[(.int .i64 11),(.string ({ data:=#[] }))]⟩):Value)=(.agg ⟨[(.int .i64 11),(.string ({ data:=#[] }))]⟩))∧(((.agg ⟨[(.int .i64 1),(.int .i64 0),(.int .i64 0),(.string s),(.string v)]⟩):Value)=(.agg ⟨[(.int .i64 1),(.int .i64 0),(.int .i64 0),(.string s),(.string v)]⟩))∧(GN m 1 0 0 s v 11 { data:=#[] })∧(((.bool u):Value)=(.bool true))∧(bif Dj m 1 0 0 s v 11 { data:=#[] }==0 then(GN m 1 0 0 s v we wv)∧(bif Dj m 1 0 0 s v we wv != 0 then(Q (.bool false) [some (.cells [(.pointer (some ⟨10,0,none⟩)),(.int .i64 (List.getD cfg 0 0)),(.int .i64 (List.getD cfg 1 0)),(.int .i64 (List.getD cfg 2 0)),(.int .i64 (List.getD cfg 3 0)),(.int .i64 (List.getD cfg 4 0)),(.int .i64 (List.getD cfg 5 0)),(.int .i64 (List.getD cfg 6 0)),(.slice (some ⟨11,0,(some 0)⟩) (n+1) 18446744073709551616)] 0 false),some (.abs (AZ.pack (Pk.model (DH m 1 0 0 s v we wv))) false),some (.vec [SK.tok] (Ad n 12 (List.length cur)) false),some (.vec Ab cur false),none,none,none])else(bif u then(bif decide (0≤IntKind.wrap .i64 (Int.ofNat (n+1) - 1))&&Nat.blt (Int.toNat (IntKind.wrap .i64 (Int.ofNat (n+1) - 1))) (n+1)then(bif Nat.blt (0+Int.toNat (IntKind.wrap .i64 (Int.ofNat (n+1) - 1))) (List.length (Ad n 12 (List.length cur)))&&GO (SK.enc SK.tok (List.getD (Ad n 12 (List.length cur)) (0+Int.toNat (IntKind.wrap .i64 (Int.ofNat (n+1) - 1))) (EK.AQ [SK.tok])))then(((.agg ⟨[(.int .i64 1),(.int .i64 0),(.int .i64 0),(.string s),(.string v)]⟩):Value)=(.agg ⟨[(.int .i64 1),(.int .i64 0),(.int .i64 0),(.string s),(.string v)]⟩))∧(((.slice (some ⟨11,0,(some 0)⟩) (n+1) 18446744073709551616):Value)=(.slice (some ⟨11,0,(some 0)⟩) (n+1) 18446744073709551616))∧(((.pointer (some ⟨9,8,none⟩)):Value)=(.pointer (some ⟨9,8,none⟩)))∧(((.pointer (some ⟨9,0,none⟩)):Value)=(.pointer (some ⟨9,0,none⟩)))∧(((.pointer (some ⟨9,0,none⟩)):Value)=(.pointer (some ⟨9,0,none⟩)))∧
 (((.pointer (some ⟨9,0,none⟩)):Value)=(.pointer (some ⟨9,0,none⟩)))∧(((.slice (Dn (SK.enc SK.tok (List.getD (Ad n 12 (List.length cur)) (0+Int.toNat (IntKind.wrap .i64 (Int.ofNat (n+1) - 1))) (EK.AQ [SK.tok])))) (Dq (SK.enc SK.tok (List.getD (Ad n 12 (List.length cur)) (0+Int.toNat (IntKind.wrap .i64 (Int.ofNat (n+1) - 1))) (EK.AQ [SK.tok])))) (Ds (SK.enc SK.tok (List.getD (Ad n 12 (List.length cur)) (0+Int.toNat (IntKind.wrap .i64 (Int.ofNat (n+1) - 1))) (EK.AQ [SK.tok]))))):Value)=(.slice (some ⟨12,0,(some 0)⟩) (List.length cur) 18446744073709551616))∧((List.length cur=List.length cur∧AF=AF)∧List.length cur < 400000)∧(((.slice (some ⟨11,0,(some 0)⟩) (n+1) 18446744073709551616):Value)=(.slice (some ⟨11,0,(some 0)⟩) (n+1) 18446744073709551616))∧(((.pointer (some ⟨9,8,none⟩)):Value)=(.pointer (some ⟨9,8,none⟩)))∧(((.pointer (some ⟨9,0,none⟩)):Value)=(.pointer (some ⟨9,0,none⟩)))∧(((.pointer (some ⟨9,0,none⟩)):Value)=(.pointer (some ⟨9,0,none⟩)))∧(((.pointer (some ⟨9,0,none⟩)):Value)=(.pointer (some ⟨9,0,none⟩)))∧(bif true&&Nat.ble (0+(n+1)) (List.length (Ad n 12 (List.length cur)))&&BO 24 (n+1+1)then(((.pointer (some ⟨9,0,none⟩)):Value)=(.pointer (some ⟨9,0,none⟩)))∧(Q (.bool true) [some (.cells [(.pointer (some ⟨10,0,none⟩)),(.int .i64 (List.getD cfg 0 0)),(.int .i64 (List.getD cfg 1 0)),(.int .i64 (List.getD cfg 2 0)),(.int .i64 (List.getD cfg 3 0)),(.int .i64 (List.getD cfg 4 0)),(.int .i64 (List.getD cfg 5 0)),(.int .i64 (List.getD cfg 6 0)),(.slice (some ⟨18,0,(some 0)⟩) (n+1+1) 18446744073709551616)] 0 false),some (.abs (AZ.pack (Pk.model (DH m 1 0 0 s v we wv))) false),none,some (.vec Ab cur false),some (.vec ([SK.str,SK.str]) (BY cur 1 s v) false),some (.cells [(.slice (some ⟨16,0,(some 0)⟩) (List.length (BY cur 1 s v)) 18446744073709551616)] 1 false),some (.vec [SK.tok] ((List.take (n+1) (List.drop 0 (Ad n 12 (List.length cur))))++[(.slice (some ⟨16,0,(some 0)⟩) (List.length (BY cur 1 s v)) 18446744073709551616)]) false)])else False)else False)else False)else(Q (.bool true) [some (.cells [(.pointer (some ⟨10,0,none⟩)),(.int .i64 (List.getD cfg 0 0)),(.int .i64 (List.getD cfg 1 0)),(.int .i64 (List.getD cfg 2 0)),(.int .i64 (List.getD cfg 3 0)),(.int .i64 (List.getD cfg 4 0)),(.int .i64 (List.getD cfg 5 0)),(.int .i64 (List.getD cfg 6 0)),(.slice (some ⟨11,0,(some 0)⟩) (n+1) 18446744073709551616)] 0 false),some (.abs (AZ.pack (Pk.model (DH m 1 0 0 s v we wv))) false),some (.vec [SK.tok] (Ad n 12 (List.length cur)) false),some (.vec Ab cur false),none,none,none])))else(Q (.bool false) [some (.cells [(.pointer (some ⟨10,0,none⟩)),(.int .i64 (List.getD cfg 0 0)),(.int .i64 (List.getD cfg 1 0)),(.int .i64 (List.getD cfg 2 0)),(.int .i64 (List.getD cfg 3 0)),(.int .i64 (List.getD cfg 4 0)),(.int .i64 (List.getD cfg 5 0)),(.int .i64 (List.getD cfg 6 0)),(.slice (some ⟨11,0,(some 0)⟩) (n+1) 18446744073709551616)] 0 false),some (.abs (AZ.pack (Pk.model m)) false),some (.vec [SK.tok] (Ad n 12 (List.length cur)) false),some (.vec Ab cur false),none,none,none]))else(List.length (AB.base m) < 1000000∧List.length (AB.now m) < 1000000∧List.length (AB.AG m) < 1000000)∧(((.bool u):Value)=(.bool false))∧(((.agg ⟨[(.int .i64 11),(.string ({ data:=#[] }))]⟩):Value)=(.agg ⟨[(.int .i64 11),(.string ({ data:=#[] }))]⟩))∧(((.agg ⟨[(.int .i64 1),(.int .i64 0),(.int .i64 0),(.string s),(.string v)]⟩):Value)=(.agg ⟨[(.int .i64 1),(.int .i64 0),(.int .i64 0),(.string s),(.string v)]⟩))∧(GN m 1 0 0 s v 11 { data:=#[] })∧
 (((.bool u):Value)=(.bool false))∧(bif Dj m 1 0 0 s v 11 { data:=#[] }==0 then(Q (.bool false) [some (.cells [(.pointer (some ⟨10,0,none⟩)),(.int .i64 (List.getD cfg 0 0)),(.int .i64 (List.getD cfg 1 0)),(.int .i64 (List.getD cfg 2 0)),(.int .i64 (List.getD cfg 3 0)),(.int .i64 (List.getD cfg 4 0)),(.int .i64 (List.getD cfg 5 0)),(.int .i64 (List.getD cfg 6 0)),(.slice (some ⟨11,0,(some 0)⟩) (n+1) 18446744073709551616)] 0 false),some (.abs (AZ.pack (Pk.model m)) false),some (.vec [SK.tok] (Ad n 12 (List.length cur)) false),some (.vec Ab cur false),none,none,none])else(GN m 1 0 0 s v we wv)∧(bif Dj m 1 0 0 s v we wv != 0 then(Q (.bool false) [some (.cells [(.pointer (some ⟨10,0,none⟩)),(.int .i64 (List.getD cfg 0 0)),(.int .i64 (List.getD cfg 1 0)),(.int .i64 (List.getD cfg 2 0)),(.int .i64 (List.getD cfg 3 0)),(.int .i64 (List.getD cfg 4 0)),(.int .i64 (List.getD cfg 5 0)),(.int .i64 (List.getD cfg 6 0)),(.slice (some ⟨11,0,(some 0)⟩) (n+1) 18446744073709551616)] 0 false),some (.abs (AZ.pack (Pk.model (DH m 1 0 0 s v we wv))) false),some (.vec [SK.tok] (Ad n 12 (List.length cur)) false),some (.vec Ab cur false),none,none,none])else(bif u then(bif decide (0≤IntKind.wrap .i64 (Int.ofNat (n+1) - 1))&&Nat.blt (Int.toNat (IntKind.wrap .i64 (Int.ofNat (n+1) - 1))) (n+1)then(bif Nat.blt (0+Int.toNat (IntKind.wrap .i64 (Int.ofNat (n+1) - 1))) (List.length (Ad n 12 (List.length cur)))&&GO (SK.enc SK.tok (List.getD (Ad n 12 (List.length cur)) (0+Int.toNat (IntKind.wrap .i64 (Int.ofNat (n+1) - 1))) (EK.AQ [SK.tok])))then(((.agg ⟨[(.int .i64 1),(.int .i64 0),(.int .i64 0),(.string s),(.string v)]⟩):Value)=(.agg ⟨[(.int .i64 1),(.int .i64 0),(.int .i64 0),(.string s),(.string v)]⟩))∧(((.slice (some ⟨11,0,(some 0)⟩) (n+1) 18446744073709551616):Value)=(.slice (some ⟨11,0,(some 0)⟩) (n+1) 18446744073709551616))∧(((.pointer (some ⟨9,8,none⟩)):Value)=(.pointer (some ⟨9,8,none⟩)))∧(((.pointer (some ⟨9,0,none⟩)):Value)=(.pointer (some ⟨9,0,none⟩)))∧(((.pointer (some ⟨9,0,none⟩)):Value)=(.pointer (some ⟨9,0,none⟩)))∧(((.pointer (some ⟨9,0,none⟩)):Value)=(.pointer (some ⟨9,0,none⟩)))∧(((.slice (Dn (SK.enc SK.tok (List.getD (Ad n 12 (List.length cur)) (0+Int.toNat (IntKind.wrap .i64 (Int.ofNat (n+1) - 1))) (EK.AQ [SK.tok])))) (Dq (SK.enc SK.tok (List.getD (Ad n 12 (List.length cur)) (0+Int.toNat (IntKind.wrap .i64 (Int.ofNat (n+1) - 1))) (EK.AQ [SK.tok])))) (Ds (SK.enc SK.tok (List.getD (Ad n 12 (List.length cur)) (0+Int.toNat (IntKind.wrap .i64 (Int.ofNat (n+1) - 1))) (EK.AQ [SK.tok]))))):Value)=(.slice (some ⟨12,0,(some 0)⟩) (List.length cur) 18446744073709551616))∧((List.length cur=List.length cur∧AF=AF)∧List.length cur < 400000)∧(((.slice (some ⟨11,0,(some 0)⟩) (n+1) 18446744073709551616):Value)=(.slice (some ⟨11,0,(some 0)⟩) (n+1) 18446744073709551616))∧(((.pointer (some ⟨9,8,none⟩)):Value)=(.pointer (some ⟨9,8,none⟩)))∧(((.pointer (some ⟨9,0,none⟩)):Value)=(.pointer (some ⟨9,0,none⟩)))∧(((.pointer (some ⟨9,0,none⟩)):Value)=(.pointer (some ⟨9,0,none⟩)))∧(((.pointer (some ⟨9,0,none⟩)):Value)=(.pointer (some ⟨9,0,none⟩)))∧(bif true&&Nat.ble (0+(n+1)) (List.length (Ad n 12 (List.length cur)))&&BO 24 (n+1+1)then(((.pointer (some ⟨9,0,none⟩)):Value)=(.pointer (some ⟨9,0,none⟩)))∧
 (Q (.bool true) [some (.cells [(.pointer (some ⟨10,0,none⟩)),(.int .i64 (List.getD cfg 0 0)),(.int .i64 (List.getD cfg 1 0)),(.int .i64 (List.getD cfg 2 0)),(.int .i64 (List.getD cfg 3 0)),(.int .i64 (List.getD cfg 4 0)),(.int .i64 (List.getD cfg 5 0)),(.int .i64 (List.getD cfg 6 0)),(.slice (some ⟨18,0,(some 0)⟩) (n+1+1) 18446744073709551616)] 0 false),some (.abs (AZ.pack (Pk.model (DH m 1 0 0 s v we wv))) false),none,some (.vec Ab cur false),some (.vec ([SK.str,SK.str]) (BY cur 1 s v) false),some (.cells [(.slice (some ⟨16,0,(some 0)⟩) (List.length (BY cur 1 s v)) 18446744073709551616)] 1 false),some (.vec [SK.tok] ((List.take (n+1) (List.drop 0 (Ad n 12 (List.length cur))))++[(.slice (some ⟨16,0,(some 0)⟩) (List.length (BY cur 1 s v)) 18446744073709551616)]) false)])else False)else False)else False)else(Q (.bool true) [some (.cells [(.pointer (some ⟨10,0,none⟩)),(.int .i64 (List.getD cfg 0 0)),(.int .i64 (List.getD cfg 1 0)),(.int .i64 (List.getD cfg 2 0)),(.int .i64 (List.getD cfg 3 0)),(.int .i64 (List.getD cfg 4 0)),(.int .i64 (List.getD cfg 5 0)),(.int .i64 (List.getD cfg 6 0)),(.slice (some ⟨11,0,(some 0)⟩) (n+1) 18446744073709551616)] 0 false),some (.abs (AZ.pack (Pk.model (DH m 1 0 0 s v we wv))) false),some (.vec [SK.tok] (Ad n 12 (List.length cur)) false),some (.vec Ab cur false),none,none,none]))))))):=by kernel_rfl
theorem Y5 (cfg:List Int) (m:AB) (n:Nat) (cur:List (EK.C Ab)) (kind key val:Int) (s v:ByteArray) (Q:Value→List (Option AJ)→Prop) (R:Ay→Prop):JI Q8 (Ny (DZ cur) 2 s v) AI [9,10,11,12] P6 Q R 400 (st AI 116 [p9,.agg ⟨[.int .u8 kind,.int .u8 key,.int .u8 val]⟩] (dO cfg m n cur))=(
 ((Gk kind∧Gk key∧Gk val)∧aK kind=2∧aS kind key=s∧aV kind val=v)∧(bif decide (0≤IntKind.wrap .i64 (Int.ofNat (n+1) - 1))&&Nat.blt (Int.toNat (IntKind.wrap .i64 (Int.ofNat (n+1) - 1))) (n+1)then(bif Nat.blt (0+Int.toNat (IntKind.wrap .i64 (Int.ofNat (n+1) - 1))) (List.length (Ad n 12 (List.length cur)))&&GO (SK.enc SK.tok (List.getD (Ad n 12 (List.length cur)) (0+Int.toNat (IntKind.wrap .i64 (Int.ofNat (n+1) - 1))) (EK.AQ [SK.tok])))then(((.string s):Value)=(.string s))∧(((.pointer (some ⟨14,3,none⟩)):Value)=(.pointer (some ⟨14,3,none⟩)))∧(((.slice (Dn (SK.enc SK.tok (List.getD (Ad n 12 (List.length cur)) (0+Int.toNat (IntKind.wrap .i64 (Int.ofNat (n+1) - 1))) (EK.AQ [SK.tok])))) (Dq (SK.enc SK.tok (List.getD (Ad n 12 (List.length cur)) (0+Int.toNat (IntKind.wrap .i64 (Int.ofNat (n+1) - 1))) (EK.AQ [SK.tok])))) (Ds (SK.enc SK.tok (List.getD (Ad n 12 (List.length cur)) (0+Int.toNat (IntKind.wrap .i64 (Int.ofNat (n+1) - 1))) (EK.AQ [SK.tok]))))):Value)=(.slice (some ⟨12,0,(some 0)⟩) (List.length cur) 18446744073709551616))∧((List.length cur=List.length cur∧AF=AF)∧List.length cur < 1000000)∧(bif Option.isSome (DB cur s)then(((.bool (Option.isSome (DB cur s))):Value)=(.bool true))∧(R (Gw cfg m n (FE [14,15] n cur) cur 2 0 0 s v 0 (Option.getD (DB cur s) e0) false 0))else(((.bool (Option.isSome (DB cur s))):Value)=(.bool false))∧(R (Gw cfg m n (FE [14,15] n cur) cur 2 0 0 s v 5 (Option.getD (DB cur s) e0) false 0)))else False)else False)):=by kernel_rfl
theorem XI (cfg:List Int) (m:AB) (n:Nat) (cur:List (EK.C Ab)) (s v:ByteArray) (we:Int) (wv:ByteArray) (e:Int) (Q:Value→List (Option AJ)→Prop) (R:Ay→Prop):JI Q8 (Ny (DZ cur) 2 s v) AI [9,10,11,12,16,17,18] P6 Q R 600 (Gw cfg m n (Ad n 12 cur.length) cur 2 0 0 s v we wv false e)=(
 (bif decide (e≤17)then(bif !(e==we&&(ByteArray.toList { data:=#[] }==ByteArray.toList wv&&true))then(bif e != 11 then(List.length (AB.base m) < 1000000∧List.length (AB.now m) < 1000000∧List.length (AB.AG m) < 1000000)∧(((.agg ⟨[(.int .i64 e),(.string ({ data:=#[] }))]⟩):Value)=(.agg ⟨[(.int .i64 e),(.string ({ data:=#[] }))]⟩))∧(((.agg ⟨[(.int .i64 2),(.int .i64 0),(.int .i64 0),(.string s),(.string v)]⟩):Value)=(.agg ⟨[(.int .i64 2),(.int .i64 0),(.int .i64 0),(.string s),(.string v)]⟩))∧(GN m 2 0 0 s v e { data:=#[] })∧(bif Dj m 2 0 0 s v e { data:=#[] } != 7 then(Q (.bool false) [some (.cells [(.pointer (some ⟨10,0,none⟩)),(.int .i64 (List.getD cfg 0 0)),(.int .i64 (List.getD cfg 1 0)),(.int .i64 (List.getD cfg 2 0)),(.int .i64 (List.getD cfg 3 0)),(.int .i64 (List.getD cfg 4 0)),(.int .i64 (List.getD cfg 5 0)),(.int .i64 (List.getD cfg 6 0)),(.slice (some ⟨11,0,(some 0)⟩) (n+1) 18446744073709551616)] 0 false),some (.abs (AZ.pack (Pk.model m)) false),some (.vec [SK.tok] (Ad n 12 (List.length cur)) false),some (.vec Ab cur false),some (.abs (AZ.pack (Pk.model (DH m 2 0 0 s v e { data:=#[] }))) false),none,none])else(R (Gw cfg m n (FE [13,14] n cur) cur 2 0 0 s v we wv false (IntKind.wrap .i64 (e+1)))))else(R (Gw cfg m n (FE [13,14] n cur) cur 2 0 0 s v we wv false (IntKind.wrap .i64 (e+1)))))else(R (Gw cfg m n (FE [13,14] n cur) cur 2 0 0 s v we wv false (IntKind.wrap .i64 (e+1)))))else(List.length (AB.base m) < 1000000∧List.length (AB.now m) < 1000000∧List.length (AB.AG m) < 1000000)∧(((.bool false):Value)=(.bool false))∧(((.agg ⟨[(.int .i64 11),(.string ({ data:=#[] }))]⟩):Value)=(.agg ⟨[(.int .i64 11),(.string ({ data:=#[] }))]⟩))∧(((.agg ⟨[(.int .i64 2),(.int .i64 0),(.int .i64 0),(.string s),(.string v)]⟩):Value)=(.agg ⟨[(.int .i64 2),(.int .i64 0),(.int .i64 0),(.string s),(.string v)]⟩))∧(GN m 2 0 0 s v 11 { data:=#[] })∧(((.bool false):Value)=(.bool false))∧(bif Dj m 2 0 0 s v 11 { data:=#[] }==0 then(Q (.bool false) [some (.cells [(.pointer (some ⟨10,0,none⟩)),(.int .i64 (List.getD cfg 0 0)),(.int .i64 (List.getD cfg 1 0)),(.int .i64 (List.getD cfg 2 0)),(.int .i64 (List.getD cfg 3 0)),(.int .i64 (List.getD cfg 4 0)),(.int .i64 (List.getD cfg 5 0)),(.int .i64 (List.getD cfg 6 0)),(.slice (some ⟨11,0,(some 0)⟩) (n+1) 18446744073709551616)] 0 false),some (.abs (AZ.pack (Pk.model m)) false),some (.vec [SK.tok] (Ad n 12 (List.length cur)) false),some (.vec Ab cur false),none,none,none])else(GN m 2 0 0 s v we wv)∧(bif Dj m 2 0 0 s v we wv != 0 then(Q (.bool false) [some (.cells [(.pointer (some ⟨10,0,none⟩)),(.int .i64 (List.getD cfg 0 0)),(.int .i64 (List.getD cfg 1 0)),(.int .i64 (List.getD cfg 2 0)),(.int .i64 (List.getD cfg 3 0)),(.int .i64 (List.getD cfg 4 0)),(.int .i64 (List.getD cfg 5 0)),(.int .i64 (List.getD cfg 6 0)),(.slice (some ⟨11,0,(some 0)⟩) (n+1) 18446744073709551616)] 0 false),some (.abs (AZ.pack (Pk.model (DH m 2 0 0 s v we wv))) false),some (.vec [SK.tok] (Ad n 12 (List.length cur)) false),some (.vec Ab cur false),none,none,none])else
 (Q (.bool true) [some (.cells [(.pointer (some ⟨10,0,none⟩)),(.int .i64 (List.getD cfg 0 0)),(.int .i64 (List.getD cfg 1 0)),(.int .i64 (List.getD cfg 2 0)),(.int .i64 (List.getD cfg 3 0)),(.int .i64 (List.getD cfg 4 0)),(.int .i64 (List.getD cfg 5 0)),(.int .i64 (List.getD cfg 6 0)),(.slice (some ⟨11,0,(some 0)⟩) (n+1) 18446744073709551616)] 0 false),some (.abs (AZ.pack (Pk.model (DH m 2 0 0 s v we wv))) false),some (.vec [SK.tok] (Ad n 12 (List.length cur)) false),some (.vec Ab cur false),none,none,none]))))):=by kernel_rfl
theorem Yk (cfg:List Int) (m:AB) (n:Nat) (cur:List (EK.C Ab)) (kind key val:Int) (s v:ByteArray) (Q:Value→List (Option AJ)→Prop) (R:Ay→Prop):JI Q8 (Ny (DZ cur) 3 s v) AI [9,10,11,12] P6 Q R 400 (st AI 116 [p9,.agg ⟨[.int .u8 kind,.int .u8 key,.int .u8 val]⟩] (dO cfg m n cur))=(
 ((Gk kind∧Gk key∧Gk val)∧aK kind=3∧aS kind key=s∧aV kind val=v)∧(bif decide (0≤IntKind.wrap .i64 (Int.ofNat (n+1) - 1))&&Nat.blt (Int.toNat (IntKind.wrap .i64 (Int.ofNat (n+1) - 1))) (n+1)then(bif Nat.blt (0+Int.toNat (IntKind.wrap .i64 (Int.ofNat (n+1) - 1))) (List.length (Ad n 12 (List.length cur)))&&GO (SK.enc SK.tok (List.getD (Ad n 12 (List.length cur)) (0+Int.toNat (IntKind.wrap .i64 (Int.ofNat (n+1) - 1))) (EK.AQ [SK.tok])))then(((.string s):Value)=(.string s))∧(((.pointer (some ⟨14,3,none⟩)):Value)=(.pointer (some ⟨14,3,none⟩)))∧(((.slice (Dn (SK.enc SK.tok (List.getD (Ad n 12 (List.length cur)) (0+Int.toNat (IntKind.wrap .i64 (Int.ofNat (n+1) - 1))) (EK.AQ [SK.tok])))) (Dq (SK.enc SK.tok (List.getD (Ad n 12 (List.length cur)) (0+Int.toNat (IntKind.wrap .i64 (Int.ofNat (n+1) - 1))) (EK.AQ [SK.tok])))) (Ds (SK.enc SK.tok (List.getD (Ad n 12 (List.length cur)) (0+Int.toNat (IntKind.wrap .i64 (Int.ofNat (n+1) - 1))) (EK.AQ [SK.tok]))))):Value)=(.slice (some ⟨12,0,(some 0)⟩) (List.length cur) 18446744073709551616))∧((List.length cur=List.length cur∧AF=AF)∧List.length cur < 1000000)∧(bif Option.isSome (DB cur s)then(((.bool (Option.isSome (DB cur s))):Value)=(.bool true))∧(R (Gw cfg m n (FE [14,15] n cur) cur 3 0 0 s v 0 ({ data:=#[] }) true 0))else(((.bool (Option.isSome (DB cur s))):Value)=(.bool false))∧(R (Gw cfg m n (FE [14,15] n cur) cur 3 0 0 s v 0 ({ data:=#[] }) false 0)))else False)else False)):=by kernel_rfl
theorem Vu (cfg:List Int) (m:AB) (n:Nat) (cur:List (EK.C Ab)) (s v:ByteArray) (we:Int) (wv:ByteArray) (u:Bool) (e:Int) (Q:Value→List (Option AJ)→Prop) (R:Ay→Prop):JI Q8 (Ny (DZ cur) 3 s v) AI [9,10,11,12,16,17,18] P6 Q R 600 (Gw cfg m n (Ad n 12 cur.length) cur 3 0 0 s v we wv u e)=(
 (bif decide (e≤17)then(bif !(e==we&&(ByteArray.toList { data:=#[] }==ByteArray.toList wv&&true))then(bif e != 11 then(List.length (AB.base m) < 1000000∧List.length (AB.now m) < 1000000∧List.length (AB.AG m) < 1000000)∧(((.agg ⟨[(.int .i64 e),(.string ({ data:=#[] }))]⟩):Value)=(.agg ⟨[(.int .i64 e),(.string ({ data:=#[] }))]⟩))∧(((.agg ⟨[(.int .i64 3),(.int .i64 0),(.int .i64 0),(.string s),(.string v)]⟩):Value)=(.agg ⟨[(.int .i64 3),(.int .i64 0),(.int .i64 0),(.string s),(.string v)]⟩))∧(GN m 3 0 0 s v e { data:=#[] })∧(bif Dj m 3 0 0 s v e { data:=#[] } != 7 then(Q (.bool false) [some (.cells [(.pointer (some ⟨10,0,none⟩)),(.int .i64 (List.getD cfg 0 0)),(.int .i64 (List.getD cfg 1 0)),(.int .i64 (List.getD cfg 2 0)),(.int .i64 (List.getD cfg 3 0)),(.int .i64 (List.getD cfg 4 0)),(.int .i64 (List.getD cfg 5 0)),(.int .i64 (List.getD cfg 6 0)),(.slice (some ⟨11,0,(some 0)⟩) (n+1) 18446744073709551616)] 0 false),some (.abs (AZ.pack (Pk.model m)) false),some (.vec [SK.tok] (Ad n 12 (List.length cur)) false),some (.vec Ab cur false),some (.abs (AZ.pack (Pk.model (DH m 3 0 0 s v e { data:=#[] }))) false),none,none])else(R (Gw cfg m n (FE [13,14] n cur) cur 3 0 0 s v we wv u (IntKind.wrap .i64 (e+1)))))else(R (Gw cfg m n (FE [13,14] n cur) cur 3 0 0 s v we wv u (IntKind.wrap .i64 (e+1)))))else(R (Gw cfg m n (FE [13,14] n cur) cur 3 0 0 s v we wv u (IntKind.wrap .i64 (e+1)))))else(bif u then(List.length (AB.base m) < 1000000∧List.length (AB.now m) < 1000000∧List.length (AB.AG m) < 1000000)∧(((.bool u):Value)=(.bool true))∧(((.agg ⟨[(.int .i64 11),(.string ({ data:=#[] }))]⟩):Value)=(.agg ⟨[(.int .i64 11),(.string ({ data:=#[] }))]⟩))∧(((.agg ⟨[(.int .i64 3),(.int .i64 0),(.int .i64 0),(.string s),(.string v)]⟩):Value)=(.agg ⟨[(.int .i64 3),(.int .i64 0),(.int .i64 0),(.string s),(.string v)]⟩))∧(GN m 3 0 0 s v 11 { data:=#[] })∧(((.bool u):Value)=(.bool true))∧(bif Dj m 3 0 0 s v 11 { data:=#[] }==0 then(GN m 3 0 0 s v we wv)∧(bif Dj m 3 0 0 s v we wv != 0 then(Q (.bool false) [some (.cells [(.pointer (some ⟨10,0,none⟩)),(.int .i64 (List.getD cfg 0 0)),(.int .i64 (List.getD cfg 1 0)),(.int .i64 (List.getD cfg 2 0)),(.int .i64 (List.getD cfg 3 0)),(.int .i64 (List.getD cfg 4 0)),(.int .i64 (List.getD cfg 5 0)),(.int .i64 (List.getD cfg 6 0)),(.slice (some ⟨11,0,(some 0)⟩) (n+1) 18446744073709551616)] 0 false),some (.abs (AZ.pack (Pk.model (DH m 3 0 0 s v we wv))) false),some (.vec [SK.tok] (Ad n 12 (List.length cur)) false),some (.vec Ab cur false),none,none,none])else(bif u then(bif decide (0≤IntKind.wrap .i64 (Int.ofNat (n+1) - 1))&&Nat.blt (Int.toNat (IntKind.wrap .i64 (Int.ofNat (n+1) - 1))) (n+1)then(bif Nat.blt (0+Int.toNat (IntKind.wrap .i64 (Int.ofNat (n+1) - 1))) (List.length (Ad n 12 (List.length cur)))&&GO (SK.enc SK.tok (List.getD (Ad n 12 (List.length cur)) (0+Int.toNat (IntKind.wrap .i64 (Int.ofNat (n+1) - 1))) (EK.AQ [SK.tok])))then(((.agg ⟨[(.int .i64 3),(.int .i64 0),(.int .i64 0),(.string s),(.string v)]⟩):Value)=(.agg ⟨[(.int .i64 3),(.int .i64 0),(.int .i64 0),(.string s),(.string v)]⟩))∧(((.slice (some ⟨11,0,(some 0)⟩) (n+1) 18446744073709551616):Value)=(.slice (some ⟨11,0,(some 0)⟩) (n+1) 18446744073709551616))∧(((.pointer (some ⟨9,8,none⟩)):Value)=(.pointer (some ⟨9,8,none⟩)))∧(((.pointer (some ⟨9,0,none⟩)):Value)=(.pointer (some ⟨9,0,none⟩)))∧(((.pointer (some ⟨9,0,none⟩)):Value)=(.pointer (some ⟨9,0,none⟩)))∧
 (((.pointer (some ⟨9,0,none⟩)):Value)=(.pointer (some ⟨9,0,none⟩)))∧(((.slice (Dn (SK.enc SK.tok (List.getD (Ad n 12 (List.length cur)) (0+Int.toNat (IntKind.wrap .i64 (Int.ofNat (n+1) - 1))) (EK.AQ [SK.tok])))) (Dq (SK.enc SK.tok (List.getD (Ad n 12 (List.length cur)) (0+Int.toNat (IntKind.wrap .i64 (Int.ofNat (n+1) - 1))) (EK.AQ [SK.tok])))) (Ds (SK.enc SK.tok (List.getD (Ad n 12 (List.length cur)) (0+Int.toNat (IntKind.wrap .i64 (Int.ofNat (n+1) - 1))) (EK.AQ [SK.tok]))))):Value)=(.slice (some ⟨12,0,(some 0)⟩) (List.length cur) 18446744073709551616))∧((List.length cur=List.length cur∧AF=AF)∧List.length cur < 400000)∧(((.slice (some ⟨11,0,(some 0)⟩) (n+1) 18446744073709551616):Value)=(.slice (some ⟨11,0,(some 0)⟩) (n+1) 18446744073709551616))∧(((.pointer (some ⟨9,8,none⟩)):Value)=(.pointer (some ⟨9,8,none⟩)))∧(((.pointer (some ⟨9,0,none⟩)):Value)=(.pointer (some ⟨9,0,none⟩)))∧(((.pointer (some ⟨9,0,none⟩)):Value)=(.pointer (some ⟨9,0,none⟩)))∧(((.pointer (some ⟨9,0,none⟩)):Value)=(.pointer (some ⟨9,0,none⟩)))∧(bif true&&Nat.ble (0+(n+1)) (List.length (Ad n 12 (List.length cur)))&&BO 24 (n+1+1)then(((.pointer (some ⟨9,0,none⟩)):Value)=(.pointer (some ⟨9,0,none⟩)))∧(Q (.bool true) [some (.cells [(.pointer (some ⟨10,0,none⟩)),(.int .i64 (List.getD cfg 0 0)),(.int .i64 (List.getD cfg 1 0)),(.int .i64 (List.getD cfg 2 0)),(.int .i64 (List.getD cfg 3 0)),(.int .i64 (List.getD cfg 4 0)),(.int .i64 (List.getD cfg 5 0)),(.int .i64 (List.getD cfg 6 0)),(.slice (some ⟨18,0,(some 0)⟩) (n+1+1) 18446744073709551616)] 0 false),some (.abs (AZ.pack (Pk.model (DH m 3 0 0 s v we wv))) false),none,some (.vec Ab cur false),some (.vec ([SK.str,SK.str]) (BY cur 3 s v) false),some (.cells [(.slice (some ⟨16,0,(some 0)⟩) (List.length (BY cur 3 s v)) 18446744073709551616)] 1 false),some (.vec [SK.tok] ((List.take (n+1) (List.drop 0 (Ad n 12 (List.length cur))))++[(.slice (some ⟨16,0,(some 0)⟩) (List.length (BY cur 3 s v)) 18446744073709551616)]) false)])else False)else False)else False)else(Q (.bool true) [some (.cells [(.pointer (some ⟨10,0,none⟩)),(.int .i64 (List.getD cfg 0 0)),(.int .i64 (List.getD cfg 1 0)),(.int .i64 (List.getD cfg 2 0)),(.int .i64 (List.getD cfg 3 0)),(.int .i64 (List.getD cfg 4 0)),(.int .i64 (List.getD cfg 5 0)),(.int .i64 (List.getD cfg 6 0)),(.slice (some ⟨11,0,(some 0)⟩) (n+1) 18446744073709551616)] 0 false),some (.abs (AZ.pack (Pk.model (DH m 3 0 0 s v we wv))) false),some (.vec [SK.tok] (Ad n 12 (List.length cur)) false),some (.vec Ab cur false),none,none,none])))else(Q (.bool false) [some (.cells [(.pointer (some ⟨10,0,none⟩)),(.int .i64 (List.getD cfg 0 0)),(.int .i64 (List.getD cfg 1 0)),(.int .i64 (List.getD cfg 2 0)),(.int .i64 (List.getD cfg 3 0)),(.int .i64 (List.getD cfg 4 0)),(.int .i64 (List.getD cfg 5 0)),(.int .i64 (List.getD cfg 6 0)),(.slice (some ⟨11,0,(some 0)⟩) (n+1) 18446744073709551616)] 0 false),some (.abs (AZ.pack (Pk.model m)) false),some (.vec [SK.tok] (Ad n 12 (List.length cur)) false),some (.vec Ab cur false),none,none,none]))else(List.length (AB.base m) < 1000000∧List.length (AB.now m) < 1000000∧List.length (AB.AG m) < 1000000)∧(((.bool u):Value)=(.bool false))∧(((.agg ⟨[(.int .i64 11),(.string ({ data:=#[] }))]⟩):Value)=(.agg ⟨[(.int .i64 11),(.string ({ data:=#[] }))]⟩))∧(((.agg ⟨[(.int .i64 3),(.int .i64 0),(.int .i64 0),(.string s),(.string v)]⟩):Value)=(.agg ⟨[(.int .i64 3),(.int .i64 0),(.int .i64 0),(.string s),(.string v)]⟩))∧(GN m 3 0 0 s v 11 { data:=#[] })∧
 (((.bool u):Value)=(.bool false))∧(bif Dj m 3 0 0 s v 11 { data:=#[] }==0 then(Q (.bool false) [some (.cells [(.pointer (some ⟨10,0,none⟩)),(.int .i64 (List.getD cfg 0 0)),(.int .i64 (List.getD cfg 1 0)),(.int .i64 (List.getD cfg 2 0)),(.int .i64 (List.getD cfg 3 0)),(.int .i64 (List.getD cfg 4 0)),(.int .i64 (List.getD cfg 5 0)),(.int .i64 (List.getD cfg 6 0)),(.slice (some ⟨11,0,(some 0)⟩) (n+1) 18446744073709551616)] 0 false),some (.abs (AZ.pack (Pk.model m)) false),some (.vec [SK.tok] (Ad n 12 (List.length cur)) false),some (.vec Ab cur false),none,none,none])else(GN m 3 0 0 s v we wv)∧(bif Dj m 3 0 0 s v we wv != 0 then(Q (.bool false) [some (.cells [(.pointer (some ⟨10,0,none⟩)),(.int .i64 (List.getD cfg 0 0)),(.int .i64 (List.getD cfg 1 0)),(.int .i64 (List.getD cfg 2 0)),(.int .i64 (List.getD cfg 3 0)),(.int .i64 (List.getD cfg 4 0)),(.int .i64 (List.getD cfg 5 0)),(.int .i64 (List.getD cfg 6 0)),(.slice (some ⟨11,0,(some 0)⟩) (n+1) 18446744073709551616)] 0 false),some (.abs (AZ.pack (Pk.model (DH m 3 0 0 s v we wv))) false),some (.vec [SK.tok] (Ad n 12 (List.length cur)) false),some (.vec Ab cur false),none,none,none])else(bif u then(bif decide (0≤IntKind.wrap .i64 (Int.ofNat (n+1) - 1))&&Nat.blt (Int.toNat (IntKind.wrap .i64 (Int.ofNat (n+1) - 1))) (n+1)then(bif Nat.blt (0+Int.toNat (IntKind.wrap .i64 (Int.ofNat (n+1) - 1))) (List.length (Ad n 12 (List.length cur)))&&GO (SK.enc SK.tok (List.getD (Ad n 12 (List.length cur)) (0+Int.toNat (IntKind.wrap .i64 (Int.ofNat (n+1) - 1))) (EK.AQ [SK.tok])))then(((.agg ⟨[(.int .i64 3),(.int .i64 0),(.int .i64 0),(.string s),(.string v)]⟩):Value)=(.agg ⟨[(.int .i64 3),(.int .i64 0),(.int .i64 0),(.string s),(.string v)]⟩))∧(((.slice (some ⟨11,0,(some 0)⟩) (n+1) 18446744073709551616):Value)=(.slice (some ⟨11,0,(some 0)⟩) (n+1) 18446744073709551616))∧(((.pointer (some ⟨9,8,none⟩)):Value)=(.pointer (some ⟨9,8,none⟩)))∧(((.pointer (some ⟨9,0,none⟩)):Value)=(.pointer (some ⟨9,0,none⟩)))∧(((.pointer (some ⟨9,0,none⟩)):Value)=(.pointer (some ⟨9,0,none⟩)))∧(((.pointer (some ⟨9,0,none⟩)):Value)=(.pointer (some ⟨9,0,none⟩)))∧(((.slice (Dn (SK.enc SK.tok (List.getD (Ad n 12 (List.length cur)) (0+Int.toNat (IntKind.wrap .i64 (Int.ofNat (n+1) - 1))) (EK.AQ [SK.tok])))) (Dq (SK.enc SK.tok (List.getD (Ad n 12 (List.length cur)) (0+Int.toNat (IntKind.wrap .i64 (Int.ofNat (n+1) - 1))) (EK.AQ [SK.tok])))) (Ds (SK.enc SK.tok (List.getD (Ad n 12 (List.length cur)) (0+Int.toNat (IntKind.wrap .i64 (Int.ofNat (n+1) - 1))) (EK.AQ [SK.tok]))))):Value)=(.slice (some ⟨12,0,(some 0)⟩) (List.length cur) 18446744073709551616))∧((List.length cur=List.length cur∧AF=AF)∧List.length cur < 400000)∧(((.slice (some ⟨11,0,(some 0)⟩) (n+1) 18446744073709551616):Value)=(.slice (some ⟨11,0,(some 0)⟩) (n+1) 18446744073709551616))∧(((.pointer (some ⟨9,8,none⟩)):Value)=(.pointer (some ⟨9,8,none⟩)))∧(((.pointer (some ⟨9,0,none⟩)):Value)=(.pointer (some ⟨9,0,none⟩)))∧(((.pointer (some ⟨9,0,none⟩)):Value)=(.pointer (some ⟨9,0,none⟩)))∧(((.pointer (some ⟨9,0,none⟩)):Value)=(.pointer (some ⟨9,0,none⟩)))∧(bif true&&Nat.ble (0+(n+1)) (List.length (Ad n 12 (List.length cur)))&&BO 24 (n+1+1)then(((.pointer (some ⟨9,0,none⟩)):Value)=(.pointer (some ⟨9,0,none⟩)))∧
 (Q (.bool true) [some (.cells [(.pointer (some ⟨10,0,none⟩)),(.int .i64 (List.getD cfg 0 0)),(.int .i64 (List.getD cfg 1 0)),(.int .i64 (List.getD cfg 2 0)),(.int .i64 (List.getD cfg 3 0)),(.int .i64 (List.getD cfg 4 0)),(.int .i64 (List.getD cfg 5 0)),(.int .i64 (List.getD cfg 6 0)),(.slice (some ⟨18,0,(some 0)⟩) (n+1+1) 18446744073709551616)] 0 false),some (.abs (AZ.pack (Pk.model (DH m 3 0 0 s v we wv))) false),none,some (.vec Ab cur false),some (.vec ([SK.str,SK.str]) (BY cur 3 s v) false),some (.cells [(.slice (some ⟨16,0,(some 0)⟩) (List.length (BY cur 3 s v)) 18446744073709551616)] 1 false),some (.vec [SK.tok] ((List.take (n+1) (List.drop 0 (Ad n 12 (List.length cur))))++[(.slice (some ⟨16,0,(some 0)⟩) (List.length (BY cur 3 s v)) 18446744073709551616)]) false)])else False)else False)else False)else(Q (.bool true) [some (.cells [(.pointer (some ⟨10,0,none⟩)),(.int .i64 (List.getD cfg 0 0)),(.int .i64 (List.getD cfg 1 0)),(.int .i64 (List.getD cfg 2 0)),(.int .i64 (List.getD cfg 3 0)),(.int .i64 (List.getD cfg 4 0)),(.int .i64 (List.getD cfg 5 0)),(.int .i64 (List.getD cfg 6 0)),(.slice (some ⟨11,0,(some 0)⟩) (n+1) 18446744073709551616)] 0 false),some (.abs (AZ.pack (Pk.model (DH m 3 0 0 s v we wv))) false),some (.vec [SK.tok] (Ad n 12 (List.length cur)) false),some (.vec Ab cur false),none,none,none]))))))):=by kernel_rfl
theorem Yj (cfg:List Int) (m:AB) (n:Nat) (cur:List (EK.C Ab)) (kind key val:Int) (s v:ByteArray) (Q:Value→List (Option AJ)→Prop) (R:Ay→Prop):JI Q8 (Ny (DZ cur) 4 s v) AI [9,10,11,12] P6 Q R 400 (st AI 116 [p9,.agg ⟨[.int .u8 kind,.int .u8 key,.int .u8 val]⟩] (dO cfg m n cur))=(
 ((Gk kind∧Gk key∧Gk val)∧aK kind=4∧aS kind key=s∧aV kind val=v)∧(bif decide (0≤IntKind.wrap .i64 (Int.ofNat (n+1) - 1))&&Nat.blt (Int.toNat (IntKind.wrap .i64 (Int.ofNat (n+1) - 1))) (n+1)then(bif Nat.blt (0+Int.toNat (IntKind.wrap .i64 (Int.ofNat (n+1) - 1))) (List.length (Ad n 12 (List.length cur)))&&GO (SK.enc SK.tok (List.getD (Ad n 12 (List.length cur)) (0+Int.toNat (IntKind.wrap .i64 (Int.ofNat (n+1) - 1))) (EK.AQ [SK.tok])))then(((.string s):Value)=(.string s))∧(((.pointer (some ⟨14,3,none⟩)):Value)=(.pointer (some ⟨14,3,none⟩)))∧(((.slice (Dn (SK.enc SK.tok (List.getD (Ad n 12 (List.length cur)) (0+Int.toNat (IntKind.wrap .i64 (Int.ofNat (n+1) - 1))) (EK.AQ [SK.tok])))) (Dq (SK.enc SK.tok (List.getD (Ad n 12 (List.length cur)) (0+Int.toNat (IntKind.wrap .i64 (Int.ofNat (n+1) - 1))) (EK.AQ [SK.tok])))) (Ds (SK.enc SK.tok (List.getD (Ad n 12 (List.length cur)) (0+Int.toNat (IntKind.wrap .i64 (Int.ofNat (n+1) - 1))) (EK.AQ [SK.tok]))))):Value)=(.slice (some ⟨12,0,(some 0)⟩) (List.length cur) 18446744073709551616))∧((List.length cur=List.length cur∧AF=AF)∧List.length cur < 1000000)∧(bif Option.isSome (DB cur s)then(((.bool (Option.isSome (DB cur s))):Value)=(.bool true))∧(R (Gw cfg m n (FE [14,15] n cur) cur 4 0 0 s v 0 ({ data:=#[] }) false 0))else(((.bool (Option.isSome (DB cur s))):Value)=(.bool false))∧(R (Gw cfg m n (FE [14,15] n cur) cur 4 0 0 s v 0 ({ data:=#[] }) false 0)))else False)else False)):=by kernel_rfl
theorem WX (cfg:List Int) (m:AB) (n:Nat) (cur:List (EK.C Ab)) (s v:ByteArray) (we:Int) (wv:ByteArray) (e:Int) (Q:Value→List (Option AJ)→Prop) (R:Ay→Prop):JI Q8 (Ny (DZ cur) 4 s v) AI [9,10,11,12,16,17,18] P6 Q R 600 (Gw cfg m n (Ad n 12 cur.length) cur 4 0 0 s v we wv false e)=(
 (bif decide (e≤17)then(bif !(e==we&&(ByteArray.toList { data:=#[] }==ByteArray.toList wv&&true))then(bif e != 11 then(List.length (AB.base m) < 1000000∧List.length (AB.now m) < 1000000∧List.length (AB.AG m) < 1000000)∧(((.agg ⟨[(.int .i64 e),(.string ({ data:=#[] }))]⟩):Value)=(.agg ⟨[(.int .i64 e),(.string ({ data:=#[] }))]⟩))∧(((.agg ⟨[(.int .i64 4),(.int .i64 0),(.int .i64 0),(.string s),(.string v)]⟩):Value)=(.agg ⟨[(.int .i64 4),(.int .i64 0),(.int .i64 0),(.string s),(.string v)]⟩))∧(GN m 4 0 0 s v e { data:=#[] })∧(bif Dj m 4 0 0 s v e { data:=#[] } != 7 then(Q (.bool false) [some (.cells [(.pointer (some ⟨10,0,none⟩)),(.int .i64 (List.getD cfg 0 0)),(.int .i64 (List.getD cfg 1 0)),(.int .i64 (List.getD cfg 2 0)),(.int .i64 (List.getD cfg 3 0)),(.int .i64 (List.getD cfg 4 0)),(.int .i64 (List.getD cfg 5 0)),(.int .i64 (List.getD cfg 6 0)),(.slice (some ⟨11,0,(some 0)⟩) (n+1) 18446744073709551616)] 0 false),some (.abs (AZ.pack (Pk.model m)) false),some (.vec [SK.tok] (Ad n 12 (List.length cur)) false),some (.vec Ab cur false),some (.abs (AZ.pack (Pk.model (DH m 4 0 0 s v e { data:=#[] }))) false),none,none])else(R (Gw cfg m n (FE [13,14] n cur) cur 4 0 0 s v we wv false (IntKind.wrap .i64 (e+1)))))else(R (Gw cfg m n (FE [13,14] n cur) cur 4 0 0 s v we wv false (IntKind.wrap .i64 (e+1)))))else(R (Gw cfg m n (FE [13,14] n cur) cur 4 0 0 s v we wv false (IntKind.wrap .i64 (e+1)))))else(List.length (AB.base m) < 1000000∧List.length (AB.now m) < 1000000∧List.length (AB.AG m) < 1000000)∧(((.bool false):Value)=(.bool false))∧(((.agg ⟨[(.int .i64 11),(.string ({ data:=#[] }))]⟩):Value)=(.agg ⟨[(.int .i64 11),(.string ({ data:=#[] }))]⟩))∧(((.agg ⟨[(.int .i64 4),(.int .i64 0),(.int .i64 0),(.string s),(.string v)]⟩):Value)=(.agg ⟨[(.int .i64 4),(.int .i64 0),(.int .i64 0),(.string s),(.string v)]⟩))∧(GN m 4 0 0 s v 11 { data:=#[] })∧(((.bool false):Value)=(.bool false))∧(bif Dj m 4 0 0 s v 11 { data:=#[] }==0 then(Q (.bool false) [some (.cells [(.pointer (some ⟨10,0,none⟩)),(.int .i64 (List.getD cfg 0 0)),(.int .i64 (List.getD cfg 1 0)),(.int .i64 (List.getD cfg 2 0)),(.int .i64 (List.getD cfg 3 0)),(.int .i64 (List.getD cfg 4 0)),(.int .i64 (List.getD cfg 5 0)),(.int .i64 (List.getD cfg 6 0)),(.slice (some ⟨11,0,(some 0)⟩) (n+1) 18446744073709551616)] 0 false),some (.abs (AZ.pack (Pk.model m)) false),some (.vec [SK.tok] (Ad n 12 (List.length cur)) false),some (.vec Ab cur false),none,none,none])else(GN m 4 0 0 s v we wv)∧(bif Dj m 4 0 0 s v we wv != 0 then(Q (.bool false) [some (.cells [(.pointer (some ⟨10,0,none⟩)),(.int .i64 (List.getD cfg 0 0)),(.int .i64 (List.getD cfg 1 0)),(.int .i64 (List.getD cfg 2 0)),(.int .i64 (List.getD cfg 3 0)),(.int .i64 (List.getD cfg 4 0)),(.int .i64 (List.getD cfg 5 0)),(.int .i64 (List.getD cfg 6 0)),(.slice (some ⟨11,0,(some 0)⟩) (n+1) 18446744073709551616)] 0 false),some (.abs (AZ.pack (Pk.model (DH m 4 0 0 s v we wv))) false),some (.vec [SK.tok] (Ad n 12 (List.length cur)) false),some (.vec Ab cur false),none,none,none])else(bif decide (0≤IntKind.wrap .i64 (Int.ofNat (n+1) - 1))&&Nat.blt (Int.toNat (IntKind.wrap .i64 (Int.ofNat (n+1) - 1))) (n+1)then(bif Nat.blt (0+Int.toNat (IntKind.wrap .i64 (Int.ofNat (n+1) - 1))) (List.length (Ad n 12 (List.length cur)))&&GO (SK.enc SK.tok (List.getD (Ad n 12 (List.length cur)) (0+Int.toNat (IntKind.wrap .i64 (Int.ofNat (n+1) - 1))) (EK.AQ [SK.tok])))then
 (Q (.bool true) [some (.cells [(.pointer (some ⟨10,0,none⟩)),(.int .i64 (List.getD cfg 0 0)),(.int .i64 (List.getD cfg 1 0)),(.int .i64 (List.getD cfg 2 0)),(.int .i64 (List.getD cfg 3 0)),(.int .i64 (List.getD cfg 4 0)),(.int .i64 (List.getD cfg 5 0)),(.int .i64 (List.getD cfg 6 0)),(.slice (some ⟨16,0,none⟩) 1 1)] 0 false),some (.abs (AZ.pack (Pk.model (DH m 4 0 0 s v we wv))) false),some (.vec [SK.tok] (Ad n 12 (List.length cur)) false),some (.vec Ab cur false),some (.cells [(.slice (Dn (SK.enc SK.tok (List.getD (Ad n 12 (List.length cur)) (0+Int.toNat (IntKind.wrap .i64 (Int.ofNat (n+1) - 1))) (EK.AQ [SK.tok])))) (Dq (SK.enc SK.tok (List.getD (Ad n 12 (List.length cur)) (0+Int.toNat (IntKind.wrap .i64 (Int.ofNat (n+1) - 1))) (EK.AQ [SK.tok])))) (Ds (SK.enc SK.tok (List.getD (Ad n 12 (List.length cur)) (0+Int.toNat (IntKind.wrap .i64 (Int.ofNat (n+1) - 1))) (EK.AQ [SK.tok])))))] 1 false),none,none])else False)else False))))):=by kernel_rfl
end Go.AD

set_option maxRecDepth 1000000
namespace Go.AD
open Go.Proofs
def B9 (s:Int):List Int:=[4+s,100,2,200,8,16,1]
structure DX (cfg:List Int) (m:AB) (n:Nat) (cur:List (EK.C Ab)) (i:Nat):Prop where
 s:∃s:Int,0≤s∧s≤7∧cfg=B9 s∧m.cfg=B9 s∧m.AS=42 * s
 now:m.now=cur
 sorted:BE cur
 cost:m.cost=BF cur
 AG:m.AG.length=n
 st:m.state=0
 pl:m.AK=false
 len:cur.length≤i
 Ks:n≤i
 Zv:m.base.length≤i
 small:∀x∈cur,x.1.size≤16∧x.2.size≤16
 le:i≤1000
theorem FO (x:EK.C Ab):16≤Cd x:=by unfold Cd;omega
theorem F4 {k v:ByteArray} (h1:k.size≤16) (h2:v.size≤16):Cd ((k,v):EK.C Ab)≤48:=by
 show 16+(k.size:Int)+(v.size:Int)≤48;omega
theorem N4 {k v:ByteArray} (h1:k.size≤16) (h2:v.size≤16):recC k v=Cd ((k,v):EK.C Ab):=by
 unfold recC
 rw[JT (x:=16+(k.size:Int)) (by omega) (by omega),JT (by omega) (by omega)];rfl
theorem KG:∀(l:List (EK.C Ab)),(∀x∈l,x.1.size≤16∧x.2.size≤16)→0≤BF l∧BF l≤48 * l.length
 | [],_=>by simp[BF]
 | x::l,h=>by
  have h1:=KG l (fun y hy=>h y (by simp[hy]))
  have h2:=h x (by simp)
  have h3:=FO x
  have h4:=F4 (k:=x.1) (v:=x.2) h2.1 h2.2
  rw[E3]
  simp only[List.length_cons]
  have h5:Cd x≤48:=h4
  omega
theorem ND {l:List (EK.C Ab)} (h:∀x∈l,x.1.size≤16∧x.2.size≤16) (hl:l.length≤2000):Gz l:=⟨by omega,fun x hx=>by have:=h x hx;omega⟩
theorem Sr {l:List (EK.C Ab)} (hs:BE l) {k o:ByteArray} (h:DA l k=some o):(k,o)∈l:=by
 cases parts k l hs with
 | has a b v ha hb hr=>
  rw[KQ hr]at h
  cases h;simp
 | none a b ha hb hr=>rw[H6 hb hr]at h;cases h
section
variable {cfg:List Int} {m:AB} {n i:Nat} {cur:List (EK.C Ab)}
theorem NJ (h:DX cfg m n cur i) {s v:ByteArray} (hs:s.size≤16) (hv:v.size≤16):D3 m false s v=BF (BY cur 1 s v):=by
 obtain⟨_,_,_,_,e⟩:=N8 h.sorted s v
 have hb:=KG cur h.small
 have hl:=h.len
 have hle:=h.le
 have hp:=F4 hs hv
 have hp2:=FO ((s,v):EK.C Ab)
 unfold D3
 rw[h.now,h.cost,e,N4 hs hv]
 cases ha:DA cur s with
 | none=>
  simp only[Option.isSome_none,cond_false]
  exact wrap64 (by omega) (by omega)
 | some o=>
  have hm:=h.small _ (Sr h.sorted ha)
  simp only at hm
  have hp3:=F4 hm.1 hm.2
  have hp4:=FO ((s,o):EK.C Ab)
  simp only[Option.isSome_some,cond_true,cond_false,Option.getD_some]
  rw[N4 hm.1 hm.2,wrap64 (x:=BF cur - Cd ((s,o):EK.C Ab)) (by omega) (by omega),wrap64 (by omega) (by omega)]
theorem Uy (h:DX cfg m n cur i) {s v:ByteArray}:D3 m true s v=BF (BY cur 3 s v):=by
 obtain⟨_,_,_,_,e⟩:=TR h.sorted s v
 have hb:=KG cur h.small
 have hl:=h.len
 have hle:=h.le
 unfold D3
 rw[h.now,h.cost,e]
 cases ha:DA cur s with
 | none=>rfl
 | some o=>
  have hm:=h.small _ (Sr h.sorted ha)
  simp only at hm
  have hp3:=F4 hm.1 hm.2
  have hp4:=FO ((s,o):EK.C Ab)
  simp only[Option.isSome_some,cond_true,Option.getD_some]
  rw[N4 hm.1 hm.2,wrap64 (by omega) (by omega)]
def KY (cfg:List Int) (cur:List (EK.C Ab)) (s v:ByteArray):Bool:=decide (BF (BY cur 1 s v) > IntKind.wrap .i64 (Int.tdiv (IntKind.wrap .i64 (IntKind.wrap .i64 (IntKind.wrap .i64 (List.getD cfg 0 0 - List.getD cfg 2 0) - 2) * 84)) 2))
theorem Wt {s:Int} (h0:0≤s) (h7:s≤7):IntKind.wrap .i64 (Int.tdiv (IntKind.wrap .i64 (IntKind.wrap .i64 (IntKind.wrap .i64 (List.getD (B9 s) 0 0 - List.getD (B9 s) 2 0) - 2) * 84)) 2)=42 * s:=by
 have e1:List.getD (B9 s) 0 0=4+s:=rfl
 have e2:List.getD (B9 s) 2 0=2:=rfl
 rw[e1,e2,wrap64 (x:=4+s - 2) (by omega) (by omega),wrap64 (x:=4+s - 2 - 2) (by omega) (by omega),wrap64 (x:=(4+s - 2 - 2) * 84) (by omega) (by omega),Int.tdiv_eq_ediv_of_nonneg (by omega),wrap64 (by omega) (by omega)]
 omega
theorem Zd (h:DX cfg m n cur i) {k:Int} {s v:ByteArray} (hs:s.size≤8) (hv:v.size≤16):BD m k s v=
 bif k==1 then(bif KY cfg cur s v then(4,e0,false)else(0,e0,true))else bif k==2 then(bif (DB cur s).isSome then(0,(DB cur s).getD e0,false)else(5,e0,false))else bif k==3 then(0,e0,(DB cur s).isSome)else(0,e0,false):=by
 obtain⟨s6,h0,h7,hc,hmc,hml⟩:=h.s
 have b1:Mu m s=false:=by
  unfold Mu
  rw[hmc]
  exact decide_eq_false (by show ¬((s.size:Int) > 8);omega)
 have b2:Sc m v=false:=by
  unfold Sc
  rw[hmc]
  exact decide_eq_false (by show ¬((v.size:Int) > 16);omega)
 have b3:QI m s v=KY cfg cur s v:=by
  unfold QI KY
  rw[NJ h (by omega) hv,hml,hc,Wt h0 h7]
 have b4:Tw m s=(DB cur s).isSome:=by
  unfold Tw;rw[h.now,QE h.sorted]
 unfold BD
 rw[b1,b2,b3,b4,h.now,QE h.sorted]
 simp only[Bool.or_self,cond_false]
 cases k==1
 ·cases k==2
  ·cases k==3
   ·rfl
   ·cases (DA cur s).isSome<;>rfl
  ·cases hk:DA cur s<;>rfl
 ·rfl
theorem K6 {k:Int} {s v:ByteArray} (hc:EU k 0 0 s v) (h7:(k==7)=false) {e we:Int} {wv:ByteArray} {u:Bool} (ha:BD m k s v=(we,wv,u)) (he:e≠11) (hne:(!(e==we&&(ByteArray.toList { data:=#[] }==ByteArray.toList wv&&true)))=true):
 Dj m k 0 0 s v e { data:=#[] }=7:=by
 have hE:Mp { data:=#[] }=true:=by simp[Mp]
 unfold Dj dV I3
 rw[LI hc,h7,ha,hE]
 have e11:(e==11)=false:=by simpa using he
 simp only[e11,hne,Bool.true_and,cond_true]
 cases u<;>cases e==13<;>rfl
theorem LH {k:Int} {s v:ByteArray} (hc:EU k 0 0 s v) (h7:(k==7)=false) {we:Int} {wv:ByteArray} {u:Bool} (ha:BD m k s v=(we,wv,u)):Dj m k 0 0 s v 11 { data:=#[] }=bif u then 0 else 7:=by
 have hE:Mp { data:=#[] }=true:=by simp[Mp]
 unfold Dj dV I3
 rw[LI hc,h7,ha,hE]
 cases u<;>rfl
theorem Jb {k:Int} {s v:ByteArray} (hc:EU k 0 0 s v) (h7:(k==7)=false) {we:Int} {wv:ByteArray} {u:Bool} (ha:BD m k s v=(we,wv,u)) (h11:(we==11)=false) (h13:(we==13)=false):
 Dj m k 0 0 s v we wv=0∧DH m k 0 0 s v we wv=Ju k (bif u then Ae m (k==3) s v else m):=by
 unfold Dj dV DH I3
 rw[LI hc,h7,ha]
 simp only[h11,h13,Bool.and_false,cond_false,beq_self_eq_true,Bool.and_self,Bool.not_true]
 cases u<;>exact⟨rfl,rfl⟩
theorem WH (h:DX cfg m n cur i) {j:Nat} (hij:i≤j) (hj:j≤1000):DX cfg m n cur j:=
 ⟨h.s,h.now,h.sorted,h.cost,h.AG,h.st,h.pl,Nat.le_trans h.len hij,Nat.le_trans h.Ks hij,Nat.le_trans h.Zv hij,h.small,hj⟩
theorem ZP (h:DX cfg m n cur i) {s v:ByteArray} (hs:s.size≤8) (hv:v.size≤16) (hi:i < 1000):DX cfg (Ae m false s v) (n+1) (BY cur 1 s v) (i+1):=by
 obtain⟨e1,e2,e3,e4,e5⟩:=N8 h.sorted s v
 have hl:=h.len
 have hnl:=h.Ks
 have hbl:=h.Zv
 refine⟨h.s,?_,e2,NJ h (by omega) hv,?_,h.st,h.pl,by omega,by omega,by show m.base.length≤i+1;omega,fun x hx=>?_,by omega⟩
 ·show EY m.now s v=_
  rw[h.now,e1]
 ·show(m.AG++[(false,s,v)]).length=_
  rw[List.length_append,h.AG];rfl
 ·rcases e4 x hx with hx | rfl
  ·exact h.small x hx
  ·exact⟨show s.size≤16 by omega,hv⟩
theorem ZW (h:DX cfg m n cur i) {s v:ByteArray} (hi:i < 1000):DX cfg (Ae m true s v) (n+1) (BY cur 3 s v) (i+1):=by
 obtain⟨e1,e2,e3,e4,e5⟩:=TR h.sorted s v
 have hl:=h.len
 have hnl:=h.Ks
 have hbl:=h.Zv
 refine⟨h.s,?_,e2,Uy h,?_,h.st,h.pl,by omega,by omega,by show m.base.length≤i+1;omega,fun x hx=>h.small x (e4 x hx),by omega⟩
 ·show Et m.now s=_
  rw[h.now,e1]
 ·show(m.AG++[(true,s,v)]).length=_
  rw[List.length_append,h.AG];rfl
theorem Vz (h:DX cfg m n cur i) (hi:i < 1000):DX cfg (XY m) 0 cur (i+1):=by
 have hl:=h.len
 refine⟨h.s,h.now,h.sorted,h.cost,rfl,h.st,h.pl,by omega,by omega,?_,h.small,by omega⟩
 show m.now.length≤i+1
 rw[h.now];omega
noncomputable def CX (cfg:List Int) (cur:List (EK.C Ab)) (k:Int) (s v:ByteArray):Int × ByteArray × Bool:=
 bif k==1 then(bif KY cfg cur s v then(4,e0,false)else(0,e0,true))else bif k==2 then(bif (DB cur s).isSome then(0,(DB cur s).getD e0,false)else(5,e0,false))else bif k==3 then(0,e0,(DB cur s).isSome)else(0,e0,false)
noncomputable def O2 (cfg:List Int) (m:AB) (cur:List (EK.C Ab)) (k:Int) (s v:ByteArray):AB:=Ju k (bif (CX cfg cur k s v).2.2 then Ae m (k==3) s v else m)
noncomputable def Me (cfg:List Int) (n:Nat) (cur:List (EK.C Ab)) (k:Int) (s v:ByteArray):Nat:=bif k==4 then 0 else bif (CX cfg cur k s v).2.2 then n+1 else n
noncomputable def ME (cfg:List Int) (cur:List (EK.C Ab)) (k:Int) (s v:ByteArray):List (EK.C Ab):=bif (CX cfg cur k s v).2.2 then BY cur k s v else cur
theorem Zh (h:DX cfg m n cur i) {k:Int} (hk:k=1∨k=2∨k=3∨k=4) {s v:ByteArray} (hs:s.size≤8) (hv:v.size≤16) (hi:i < 1000):DX cfg (O2 cfg m cur k s v) (Me cfg n cur k s v) (ME cfg cur k s v) (i+1):=by
 have hm:=WH h (Nat.le_succ i) hi
 rcases hk with rfl | rfl | rfl | rfl
 ·cases ho:KY cfg cur s v
  ·have e:CX cfg cur 1 s v=(0,e0,true):=by unfold CX;rw[ho];rfl
   unfold O2 Me ME
   rw[e];exact ZP h hs hv hi
  ·have e:CX cfg cur 1 s v=(4,e0,false):=by unfold CX;rw[ho];rfl
   unfold O2 Me ME
   rw[e];exact hm
 ·have e:(CX cfg cur 2 s v).2.2=false:=by unfold CX;cases (DB cur s).isSome<;>rfl
  unfold O2 Me ME
  rw[e];exact hm
 ·have e:(CX cfg cur 3 s v).2.2=(DB cur s).isSome:=rfl
  unfold O2 Me ME
  rw[e]
  cases (DB cur s).isSome
  ·exact hm
  ·exact ZW h hi
 ·have e:(CX cfg cur 4 s v).2.2=false:=rfl
  unfold O2 Me ME
  rw[e];exact Vz h hi
end
end Go.AD

set_option maxRecDepth 1000000
namespace Go.AD
open Go.Proofs
theorem I6 {n:Nat} (h:n < 1000000):IntKind.wrap .i64 (Int.ofNat (n+1) - 1)=(n:Int):=by
 have e:Int.ofNat (n+1) - 1=(n:Int):=by show((n+1:Nat):Int) - 1=n;omega
 rw[e,wrap64 (by omega) (by omega)]
theorem GZ (n z len:Nat):(Ad n z len).length=n+1:=by
 unfold Ad;rw[List.length_append,List.length_replicate];rfl
theorem Jd (n z len:Nat):List.getD (Ad n z len) (0+Int.toNat (n:Int)) (EK.AQ [SK.tok])= .slice (some ⟨z,0,some 0⟩) len AF:=by
 rw[Int.toNat_natCast,Nat.zero_add]
 unfold Ad
 rw[List.getD_eq_getElem?_getD,List.getElem?_append_right (by rw[List.length_replicate];exact Nat.le_refl _),List.length_replicate,Nat.sub_self];rfl
theorem D4 {n:Nat} (h:n < 1000000):(decide (0≤IntKind.wrap .i64 (Int.ofNat (n+1) - 1))&&Nat.blt (Int.toNat (IntKind.wrap .i64 (Int.ofNat (n+1) - 1))) (n+1))=true:=by
 rw[I6 h,decide_eq_true (by omega),Int.toNat_natCast]
 exact Nat.ble_eq_true_of_le (by omega)
theorem G9 {n len:Nat} (h:n < 1000000):(Nat.blt (0+Int.toNat (IntKind.wrap .i64 (Int.ofNat (n+1) - 1))) (List.length (Ad n 12 len))&&GO (SK.enc SK.tok (List.getD (Ad n 12 len) (0+Int.toNat (IntKind.wrap .i64 (Int.ofNat (n+1) - 1))) (EK.AQ [SK.tok]))))=true:=by
 rw[I6 h,Jd,GZ,Int.toNat_natCast,Nat.zero_add]
 have:Nat.blt n (n+1)=true:=Nat.ble_eq_true_of_le (by omega)
 rw[this];rfl
theorem JU {n len:Nat} (h:n < 1000000):Value.slice (Dn (SK.enc SK.tok (List.getD (Ad n 12 len) (0+Int.toNat (IntKind.wrap .i64 (Int.ofNat (n+1) - 1))) (EK.AQ [SK.tok])))) (Dq (SK.enc SK.tok (List.getD (Ad n 12 len) (0+Int.toNat (IntKind.wrap .i64 (Int.ofNat (n+1) - 1))) (EK.AQ [SK.tok])))) (Ds (SK.enc SK.tok (List.getD (Ad n 12 len) (0+Int.toNat (IntKind.wrap .i64 (Int.ofNat (n+1) - 1))) (EK.AQ [SK.tok]))))= .slice (some ⟨12,0,some 0⟩) len 18446744073709551616:=by
 rw[I6 h,Jd,E4];rfl
theorem CV (ids:List Nat) (n:Nat) (cur:List (EK.C Ab)):FE ids n cur=Ad n 12 cur.length:=by
 have e1:PF (LP 13 ids) A5=A5:=rfl
 have e2:PF (LP 13 ids) (.slice (some ⟨12,0,some 0⟩) cur.length AF)= .slice (some ⟨12,0,some 0⟩) cur.length AF:=rfl
 show List.map (PF (LP 13 ids)) (List.replicate n A5++[Value.slice (some ⟨12,0,some 0⟩) cur.length AF])=_
 rw[List.map_append,List.map_replicate,e1,List.map_cons,e2];rfl
theorem IW {cfg:List Int} {m:AB} {n i:Nat} {cur:List (EK.C Ab)} (h:DX cfg m n cur i) {k:Int} {s v:ByteArray} (hc:EU k 0 0 s v) (h7:(k==7)=false) (e:Int) (sv:ByteArray):GN m k 0 0 s v e sv:=by
 obtain⟨s6,_,_,_,hmc,_⟩:=h.s
 have h1:=h.len
 have h2:=h.Ks
 have h3:=h.le
 exact⟨by rw[hmc];rfl,h.st,h.pl,hc.ok,by rw[h.now];exact h.sorted,by rw[h.now];omega,by rw[h.AG];omega,fun h=>by rw[h7]at h;cases h⟩
theorem Mv {cfg:List Int} {m:AB} {n i:Nat} {cur:List (EK.C Ab)} (h:DX cfg m n cur i):List.length (AB.base m) < 1000000∧List.length (AB.now m) < 1000000∧List.length (AB.AG m) < 1000000:=by
 have h1:=h.len
 have h2:=h.Ks
 have h3:=h.le
 have h4:=h.Zv
 exact⟨by omega,by rw[h.now];omega,by rw[h.AG];omega⟩
theorem Ll {laid:List (Nat × List Value)} {N:Nat} {muts:List Bool} {G G':List Value→List AJ→GT} (h:∀args objs x,(G args objs).run=some x→(G' args objs).run=some x) (args:List Value) (H:AA) (r:Value × AA) (hr:A3 laid N muts G args H=some r):A3 laid N muts G' args H=some r:=by
 unfold A3 at hr ⊢
 generalize Cz (EG (PM laid N (Ax H N 200 (args.flatMap (Af 4)) []))) args=A at hr ⊢
 generalize VK (PM laid N (Ax H N 200 (args.flatMap (Af 4)) [])) H (Ax H N 200 (args.flatMap (Af 4)) [])=B at hr ⊢
 cases A with
 | none=>cases hr
 | some a=>cases B with
  | none=>cases hr
  | some o=>
   simp only at hr ⊢
   cases hm:HZ muts H 0 (Ax H N 200 (args.flatMap (Af 4)) [])
   ·simp only[hm,cond_false]at hr;cases hr
   ·simp only[hm,cond_true]at hr ⊢
    split at hr
    ·rename_i x hx
     rw[h _ _ x hx];exact hr
    ·cases hr
theorem Sg:Da Tryz.prog AL BC (A3 AL 9 [true] fD):=by
 refine Da.sub bj (Ll fun args objs x hx=>?_)
 unfold fD at hx
 split at hx
 ·rename_i k a b key val e sv m ro
  simp only[GT.run]at hx
  split at hx
  ·rename_i hok
   cases hx
   obtain⟨h1,h2,h3,h4,h5,h6,h7,h8⟩:=hok
   have hq:fZ.ok m [IX k a b key val,Uh e sv]:=⟨k,a,b,key,val,e,sv,rfl,h1,h2,h3,h4,h5,h6,h7,h8⟩
   show(GT.ask (fZ.ok m [IX k a b key val,Uh e sv]) _).run=_
   simp only[GT.run]
   rw[if_pos hq];rfl
  ·cases hx
 ·cases hx
theorem Ui:Da Tryz.prog AL B1 (A3 AL 9 [true] Jm.G):=by
 refine TA allM (by kernel_rfl) (n:=10) ?_
 rintro m rest rfl
 refine⟨by simp,rfl,?_⟩
 have hE:As XM 10 B1 (fun v H=>v= .int .i64 m.cost∧([9,10,11,12]++Af 4 v).map H.get=[some (.cells (BV m 10 11 (.slice (some ⟨12,0,some 0⟩) m.AG.length AF)) 0 false),some (DP m.base),some (DP m.now),some (.vec CW m.AG false)]) (st B1 10 [p9] (BW ⟨.leaf,9⟩ (Mq m))):=by
  refine B8.Gq (B6 Hs (ids:=[9,10,11,12]) (Q:=fun v os=>v= .int .i64 m.cost∧os=[some (.cells (BV m 10 11 (.slice (some ⟨12,0,some 0⟩) m.AG.length AF)) 0 false),some (DP m.base),some (DP m.now),some (.vec CW m.AG false)]) 100 _ ?_)
  rw[We]
  exact⟨rfl,by unfold AF;rfl⟩
 refine hE.mono ?_
 rintro v H ⟨rfl,h⟩
 have h:[H.get 9,H.get 10,H.get 11,H.get 12]=_:=h
 simp only[List.cons.injEq,and_true]at h
 exact⟨rfl,10,11,12,by decide,by decide,by decide,by decide,by decide,by decide,h.2.1,h.2.2.1,h.1,h.2.2.2⟩
theorem Vm:Da Tryz.prog AL BZ (A3 AL 9 [true] WT.G):=by
 refine TA allM (by kernel_rfl) (n:=11) ?_
 rintro m rest rfl
 refine⟨by simp,rfl,?_⟩
 have hE:As XM 10 BZ (fun v H=>v= .int .i64 m.AG.length∧([9,10,11,12]++Af 4 v).map H.get=[some (.cells (BV m 10 11 (.slice (some ⟨12,0,some 0⟩) m.AG.length AF)) 0 false),some (DP m.base),some (DP m.now),some (.vec CW m.AG false)]) (st BZ 11 [p9] (BW ⟨.leaf,9⟩ (Mq m))):=by
  refine B8.Gq (B6 Hs (ids:=[9,10,11,12]) (Q:=fun v os=>v= .int .i64 m.AG.length∧os=[some (.cells (BV m 10 11 (.slice (some ⟨12,0,some 0⟩) m.AG.length AF)) 0 false),some (DP m.base),some (DP m.now),some (.vec CW m.AG false)]) 100 _ ?_)
  rw[aY]
  exact⟨rfl,by unfold AF;rfl⟩
 refine hE.mono ?_
 rintro v H ⟨rfl,h⟩
 have h:[H.get 9,H.get 10,H.get 11,H.get 12]=_:=h
 simp only[List.cons.injEq,and_true]at h
 exact⟨rfl,10,11,12,by decide,by decide,by decide,by decide,by decide,by decide,h.2.1,h.2.2.1,h.1,h.2.2.2⟩
end Go.AD

set_option maxRecDepth 1000000
namespace Go.AD
open Go.Proofs
theorem II {X:Ctx} {f:FuncId} {x:Value} {p:FJ} (h:∀args H (K:Value→AA→Prop),p args H K→∃v H',Bp X f args .normal H=some (v,H')∧K v H') (args:List Value) (H:AA) (K:Value→AA→Prop) (hp:KP x p args H K):∃v H',Bp X f args .normal H=some (v,H')∧K v H':=by
 unfold KP at hp
 split at hp
 ·obtain⟨rfl,hp⟩:=hp
  exact h _ H K hp
 ·exact hp.elim
theorem ZJ {X:Ctx} {f:FuncId} {k:Int} {s v:ByteArray} (hX:X.FL f=some qOp.F) (args:List Value) (H:AA) (K:Value→AA→Prop) (h:dF k s v args H K):∃v H',Bp X f args .normal H=some (v,H')∧K v H':=by
 unfold dF at h
 split at h
 ·obtain⟨⟨h1,rfl,rfl,rfl⟩,h2⟩:=h
  exact Co.Vf (q:=qOp) hX _ H K ⟨h1,h2⟩
 ·exact h.elim
theorem FT (x:Value) (k:Int) (s v:ByteArray):FD Q8 (Ny x k s v):=An (ZJ (by kernel_rfl)) (An (II fun _ _ _ h=>Ak (by kernel_rfl) h) (An (II fun _ _ _ h=>Ak (by kernel_rfl) h) (An (fun _ _ _ h=>Ak (by kernel_rfl) h)
 (An (fun _ _ _ h=>Ak (by kernel_rfl) h) (An (fun _ _ _ h=>Ak (by kernel_rfl) h) (Av _))))))
theorem eh:Aw Tryz.prog AL eC:=Aw.cons dL (Aw.cons UB (Aw.cons XQ (Aw.cons Q2 (Aw.cons T6 (Aw.cons Sg (Aw.nil _ _))))))
theorem Ho {A B:Prop} (h:A):(bif true then A else B):=h
theorem OV {A B:Prop} (h:B):(bif false then A else B):=h
theorem EP {b:Bool} {A B:Prop} (h:b=false) (h1:B):(bif b then A else B):=by rw[h];exact h1
noncomputable def fw (cfg:List Int):List Value:=(Pe cfg 10 11 0).take 8++[.slice (some ⟨16,0,none⟩) 1 1]
inductive Q7 (cfg:List Int) (m':AB) (n:Nat) (cur:List (EK.C Ab)) (k:Int) (s v:ByteArray):Bool→List (Option AJ)→Prop where
 | same (a b c:Option AJ) (hk:(k==4)=false):Q7 cfg m' n cur k s v false [some (.cells (Pe cfg 10 11 (n+1)) 0 false),some (.abs (.pack (.model m')) false),some (.vec [.tok] (Ad n 12 cur.length) false),some (.vec Ab cur false),a,b,c]
 | app (x:Option AJ) (hk:(k==4)=false):Q7 cfg m' n cur k s v true [some (.cells (Pe cfg 10 18 (n+1+1)) 0 false),some (.abs (.pack (.model m')) false),none,some (.vec Ab cur false),some (.vec Ab (BY cur k s v) false),x,some (.vec [.tok] (List.take (n+1) (List.drop 0 (Ad n 12 cur.length))++[Value.slice (some ⟨16,0,some 0⟩) (BY cur k s v).length AF]) false)]
 | fg (a b:Option AJ) (hk:(k==4)=true):Q7 cfg m' n cur k s v false [some (.cells (fw cfg) 0 false),some (.abs (.pack (.model m')) false),some (.vec [.tok] (Ad n 12 cur.length) false),some (.vec Ab cur false),some (.cells [.slice (some ⟨12,0,some 0⟩) cur.length AF] 1 false),a,b]
abbrev Fw:List Nat:=[9,10,11,12,16,17,18]
abbrev YP (cfg:List Int) (m':AB) (n:Nat) (cur:List (EK.C Ab)) (k:Int) (s v:ByteArray) (u:Bool):Value→List (Option AJ)→Prop:=fun vv os=>vv= .bool true∧Q7 cfg m' n cur k s v u os
theorem int_ne {a b:Int} (h:a≠b):(a==b)=false:=by simpa using h
theorem S7 {n len:Nat} (hn:n < 1000000):(true&&Nat.ble (0+(n+1)) (List.length (Ad n 12 len))&&BO 24 (n+1+1))=true:=by
 rw[GZ,Nat.ble_eq_true_of_le (by omega)]
 unfold BO
 rw[Nat.ble_eq_true_of_le (by omega),Nat.ble_eq_true_of_le (by omega)];rfl
section
variable {cfg:List Int} {m:AB} {n i:Nat} {cur:List (EK.C Ab)} {s v:ByteArray} {we:Int} {wv:ByteArray}
theorem Vw (h:DX cfg m n cur i) (hc:EU 1 0 0 s v) {u:Bool} (ha:BD m 1 s v=(we,wv,u)) (h11:(we==11)=false) (h13:(we==13)=false):∀(q:Nat) (e:Int),(18 - e).toNat=q→0≤e→e≤18→
 As Q8 13 AI (fun vv H=>YP cfg (DH m 1 0 0 s v we wv) n cur 1 s v u vv ((Fw++Af 4 vv).map H.get)) (Gw cfg m n (Ad n 12 cur.length) cur 1 0 0 s v we wv u e):=by
 have hn:n < 1000000:=by have:=h.Ks;have:=h.le;omega
 have hb:=LH hc rfl ha
 obtain⟨hw1,hw2⟩:=Jb hc rfl ha h11 h13
 have hw0:(Dj m 1 0 0 s v we wv != 0)=false:=by rw[hw1];rfl
 intro q
 induction q with
 | zero=>
  intro e hq h0 h18
  refine Bd (FT (DZ cur) 1 s v) (ids:=Fw) (S:=P6) (by kernel_rfl) (Q:=YP cfg (DH m 1 0 0 s v we wv) n cur 1 s v u) (R:=fun _=>False) (fun vv H h=>h) (fun c h=>h.elim) 600 _ ?_
  rw[X4]
  refine AT (fun h=>absurd h (by omega)) (fun _=>?_)
  cases u
  ·have hb0:(Dj m 1 0 0 s v 11 { data:=#[] }==0)=false:=by rw[hb];rfl
   refine OV ⟨Mv h,rfl,rfl,rfl,IW h hc rfl _ _,rfl,EP hb0 ⟨IW h hc rfl _ _,EP hw0 (OV ⟨rfl,?_⟩)⟩⟩
   first | exact Q7.same (k:=1) _ _ _ rfl | (rw[E4];exact Q7.same (k:=1) _ _ _ rfl)
  ·have hb0:(Dj m 1 0 0 s v 11 { data:=#[] }==0)=true:=by rw[hb];rfl
   refine Ho ⟨Mv h,rfl,rfl,rfl,IW h hc rfl _ _,rfl,AE hb0 ⟨IW h hc rfl _ _,EP hw0 (Ho (AE (D4 hn) (AE (G9 hn) ⟨rfl,rfl,rfl,rfl,rfl,rfl,JU hn,⟨⟨rfl,rfl⟩,?_⟩,rfl,rfl,rfl,rfl,rfl,AE (S7 hn) ⟨rfl,rfl,?_⟩⟩)))⟩⟩
   ·have:=h.len;have:=h.le;omega
   ·first | exact Q7.app (k:=1) _ rfl | (rw[E4];exact Q7.app (k:=1) _ rfl)
 | succ q ih=>
  intro e hq h0 h18
  have hw:IntKind.wrap .i64 (e+1)=e+1:=wrap64 (by omega) (by omega)
  refine Bd (FT (DZ cur) 1 s v) (ids:=Fw) (S:=P6) (by kernel_rfl) (Q:=fun _ _=>False) (R:=fun c=>c=Gw cfg m n (Ad n 12 cur.length) cur 1 0 0 s v we wv u (e+1)) (fun vv H h=>h.elim) (fun c h=>by rw[h];exact ih (e+1) (by omega) (by omega) (by omega)) 600 _ ?_
  rw[X4,hw]
  refine AT (fun _=>?_) (fun h=>absurd (show e≤(17:Int) by omega) h)
  refine Az (fun hne=>Az (fun h11=>?_) (fun _=>?_)) (fun _=>?_)
  ·refine⟨Mv h,rfl,rfl,IW h hc rfl _ _,?_⟩
   rw[K6 hc rfl ha (by simpa using h11) hne]
   exact EP rfl (by rw[CV])
  ·rw[CV]
  ·rw[CV]
theorem Xu (h:DX cfg m n cur i) (hc:EU 2 0 0 s v) (ha:BD m 2 s v=(we,wv,false)) (h11:(we==11)=false) (h13:(we==13)=false):∀(q:Nat) (e:Int),(18 - e).toNat=q→0≤e→e≤18→
 As Q8 13 AI (fun vv H=>YP cfg (DH m 2 0 0 s v we wv) n cur 2 s v false vv ((Fw++Af 4 vv).map H.get)) (Gw cfg m n (Ad n 12 cur.length) cur 2 0 0 s v we wv false e):=by
 have hn:n < 1000000:=by have:=h.Ks;have:=h.le;omega
 have hb:=LH hc rfl ha
 obtain⟨hw1,hw2⟩:=Jb hc rfl ha h11 h13
 have hw0:(Dj m 2 0 0 s v we wv != 0)=false:=by rw[hw1];rfl
 intro q
 induction q with
 | zero=>
  intro e hq h0 h18
  refine Bd (FT (DZ cur) 2 s v) (ids:=Fw) (S:=P6) (by kernel_rfl) (Q:=YP cfg (DH m 2 0 0 s v we wv) n cur 2 s v false) (R:=fun _=>False) (fun vv H h=>h) (fun c h=>h.elim) 600 _ ?_
  rw[XI]
  refine AT (fun h=>absurd h (by omega)) (fun _=>?_)
  have hb0:(Dj m 2 0 0 s v 11 { data:=#[] }==0)=false:=by rw[hb];rfl
  refine⟨Mv h,rfl,rfl,rfl,IW h hc rfl _ _,rfl,EP hb0 ⟨IW h hc rfl _ _,EP hw0 ⟨rfl,?_⟩⟩⟩
  first | exact Q7.same (k:=2) _ _ _ rfl | (rw[E4];exact Q7.same (k:=2) _ _ _ rfl)
 | succ q ih=>
  intro e hq h0 h18
  have hw:IntKind.wrap .i64 (e+1)=e+1:=wrap64 (by omega) (by omega)
  refine Bd (FT (DZ cur) 2 s v) (ids:=Fw) (S:=P6) (by kernel_rfl) (Q:=fun _ _=>False) (R:=fun c=>c=Gw cfg m n (Ad n 12 cur.length) cur 2 0 0 s v we wv false (e+1)) (fun vv H h=>h.elim) (fun c h=>by rw[h];exact ih (e+1) (by omega) (by omega) (by omega)) 600 _ ?_
  rw[XI,hw]
  refine AT (fun _=>?_) (fun h=>absurd (show e≤(17:Int) by omega) h)
  refine Az (fun hne=>Az (fun h11=>?_) (fun _=>?_)) (fun _=>?_)
  ·refine⟨Mv h,rfl,rfl,IW h hc rfl _ _,?_⟩
   rw[K6 hc rfl ha (by simpa using h11) hne]
   exact EP rfl (by rw[CV])
  ·rw[CV]
  ·rw[CV]
theorem YC (h:DX cfg m n cur i) (hc:EU 3 0 0 s v) {u:Bool} (ha:BD m 3 s v=(we,wv,u)) (h11:(we==11)=false) (h13:(we==13)=false):∀(q:Nat) (e:Int),(18 - e).toNat=q→0≤e→e≤18→
 As Q8 13 AI (fun vv H=>YP cfg (DH m 3 0 0 s v we wv) n cur 3 s v u vv ((Fw++Af 4 vv).map H.get)) (Gw cfg m n (Ad n 12 cur.length) cur 3 0 0 s v we wv u e):=by
 have hn:n < 1000000:=by have:=h.Ks;have:=h.le;omega
 have hb:=LH hc rfl ha
 obtain⟨hw1,hw2⟩:=Jb hc rfl ha h11 h13
 have hw0:(Dj m 3 0 0 s v we wv != 0)=false:=by rw[hw1];rfl
 intro q
 induction q with
 | zero=>
  intro e hq h0 h18
  refine Bd (FT (DZ cur) 3 s v) (ids:=Fw) (S:=P6) (by kernel_rfl) (Q:=YP cfg (DH m 3 0 0 s v we wv) n cur 3 s v u) (R:=fun _=>False) (fun vv H h=>h) (fun c h=>h.elim) 600 _ ?_
  rw[Vu]
  refine AT (fun h=>absurd h (by omega)) (fun _=>?_)
  cases u
  ·have hb0:(Dj m 3 0 0 s v 11 { data:=#[] }==0)=false:=by rw[hb];rfl
   refine OV ⟨Mv h,rfl,rfl,rfl,IW h hc rfl _ _,rfl,EP hb0 ⟨IW h hc rfl _ _,EP hw0 (OV ⟨rfl,?_⟩)⟩⟩
   first | exact Q7.same (k:=3) _ _ _ rfl | (rw[E4];exact Q7.same (k:=3) _ _ _ rfl)
  ·have hb0:(Dj m 3 0 0 s v 11 { data:=#[] }==0)=true:=by rw[hb];rfl
   refine Ho ⟨Mv h,rfl,rfl,rfl,IW h hc rfl _ _,rfl,AE hb0 ⟨IW h hc rfl _ _,EP hw0 (Ho (AE (D4 hn) (AE (G9 hn) ⟨rfl,rfl,rfl,rfl,rfl,rfl,JU hn,⟨⟨rfl,rfl⟩,?_⟩,rfl,rfl,rfl,rfl,rfl,AE (S7 hn) ⟨rfl,rfl,?_⟩⟩)))⟩⟩
   ·have:=h.len;have:=h.le;omega
   ·first | exact Q7.app (k:=3) _ rfl | (rw[E4];exact Q7.app (k:=3) _ rfl)
 | succ q ih=>
  intro e hq h0 h18
  have hw:IntKind.wrap .i64 (e+1)=e+1:=wrap64 (by omega) (by omega)
  refine Bd (FT (DZ cur) 3 s v) (ids:=Fw) (S:=P6) (by kernel_rfl) (Q:=fun _ _=>False) (R:=fun c=>c=Gw cfg m n (Ad n 12 cur.length) cur 3 0 0 s v we wv u (e+1)) (fun vv H h=>h.elim) (fun c h=>by rw[h];exact ih (e+1) (by omega) (by omega) (by omega)) 600 _ ?_
  rw[Vu,hw]
  refine AT (fun _=>?_) (fun h=>absurd (show e≤(17:Int) by omega) h)
  refine Az (fun hne=>Az (fun h11=>?_) (fun _=>?_)) (fun _=>?_)
  ·refine⟨Mv h,rfl,rfl,IW h hc rfl _ _,?_⟩
   rw[K6 hc rfl ha (by simpa using h11) hne]
   exact EP rfl (by rw[CV])
  ·rw[CV]
  ·rw[CV]
theorem Vc (h:DX cfg m n cur i) (hc:EU 4 0 0 s v) (ha:BD m 4 s v=(we,wv,false)) (h11:(we==11)=false) (h13:(we==13)=false):∀(q:Nat) (e:Int),(18 - e).toNat=q→0≤e→e≤18→
 As Q8 13 AI (fun vv H=>YP cfg (DH m 4 0 0 s v we wv) n cur 4 s v false vv ((Fw++Af 4 vv).map H.get)) (Gw cfg m n (Ad n 12 cur.length) cur 4 0 0 s v we wv false e):=by
 have hn:n < 1000000:=by have:=h.Ks;have:=h.le;omega
 obtain⟨hw1,hw2⟩:=Jb hc rfl ha h11 h13
 have hw0:(Dj m 4 0 0 s v we wv != 0)=false:=by rw[hw1];rfl
 intro q
 induction q with
 | zero=>
  intro e hq h0 h18
  refine Bd (FT (DZ cur) 4 s v) (ids:=Fw) (S:=P6) (by kernel_rfl) (Q:=YP cfg (DH m 4 0 0 s v we wv) n cur 4 s v false) (R:=fun _=>False) (fun vv H h=>h) (fun c h=>h.elim) 600 _ ?_
  rw[WX]
  refine AT (fun h=>absurd h (by omega)) (fun _=>?_)
  have hb0:(Dj m 4 0 0 s v 11 { data:=#[] }==0)=false:=by rw[LH hc rfl ha];rfl
  refine⟨Mv h,rfl,rfl,rfl,IW h hc rfl _ _,rfl,EP hb0 ⟨IW h hc rfl _ _,EP hw0 (AE (D4 hn) (AE (G9 hn) ⟨rfl,?_⟩))⟩⟩
  rw[JU hn]
  first | exact Q7.fg (k:=4) _ _ rfl | (rw[E4];exact Q7.fg (k:=4) _ _ rfl)
 | succ q ih=>
  intro e hq h0 h18
  have hw:IntKind.wrap .i64 (e+1)=e+1:=wrap64 (by omega) (by omega)
  refine Bd (FT (DZ cur) 4 s v) (ids:=Fw) (S:=P6) (by kernel_rfl) (Q:=fun _ _=>False) (R:=fun c=>c=Gw cfg m n (Ad n 12 cur.length) cur 4 0 0 s v we wv false (e+1)) (fun vv H h=>h.elim) (fun c h=>by rw[h];exact ih (e+1) (by omega) (by omega) (by omega)) 600 _ ?_
  rw[WX,hw]
  refine AT (fun _=>?_) (fun h=>absurd (show e≤(17:Int) by omega) h)
  refine Az (fun hne=>Az (fun h11=>?_) (fun _=>?_)) (fun _=>?_)
  ·refine⟨Mv h,rfl,rfl,IW h hc rfl _ _,?_⟩
   rw[K6 hc rfl ha (by simpa using h11) hne]
   exact EP rfl (by rw[CV])
  ·rw[CV]
  ·rw[CV]
end
end Go.AD

set_option maxRecDepth 1000000
namespace Go.AD
open Go.Proofs
theorem bz {j:Nat} (h:j < 5):QJ (dS j)∧(dS j).size≤8:=by
 match j,h with
 | 0,_=>exact⟨.inl rfl,by decide⟩
 | 1,_=>exact⟨.inr (.inl rfl),by decide⟩
 | 2,_=>exact⟨.inr (.inr (.inl rfl)),by decide⟩
 | 3,_=>exact⟨.inr (.inr (.inr (.inl rfl))),by decide⟩
 | 4,_=>exact⟨.inr (.inr (.inr (.inr (.inl rfl)))),by decide⟩
theorem Tm {val:Int}:(Vi val).size≤16:=by
 unfold Vi
 rw[ByteArray.size_extract]
 have:ByteArray.size QL=16:=rfl
 omega
theorem QX (kind key val:Int):EU (aK kind) 0 0 (aS kind key) (aV kind val)∧(aK kind=1∨aK kind=2∨aK kind=3∨aK kind=4)∧(aS kind key).size≤8∧(aV kind val).size≤16:=by
 obtain⟨h1,h2⟩:=bz (j:=key.toNat % 5) (Nat.mod_lt _ (by decide))
 have h3:=Tm (val:=val)
 unfold aS aV
 have hk:aK kind=1∨aK kind=2∨aK kind=3∨aK kind=4:=by
  unfold aK
  cases decide (Int.tmod kind 8 < 4)
  ·cases decide (Int.tmod kind 8 < 6)
   ·cases Int.tmod kind 8==6
    ·exact .inr (.inl rfl)
    ·exact .inr (.inr (.inr rfl))
   ·exact .inr (.inr (.inl rfl))
  ·exact .inl rfl
 rcases hk with e | e | e | e<;>rw[e]
 ·exact⟨.put _ _ h1 (by show(Vi val).size≤512;omega),.inl rfl,h2,h3⟩
 ·exact⟨.get _ h1,.inr (.inl rfl),h2,Nat.zero_le _⟩
 ·exact⟨.del _ h1,.inr (.inr (.inl rfl)),h2,Nat.zero_le _⟩
 ·exact⟨.sync,.inr (.inr (.inr rfl)),Nat.zero_le _,Nat.zero_le _⟩
section
variable {cfg:List Int} {m:AB} {n i:Nat} {cur:List (EK.C Ab)}
theorem Vk (h:DX cfg m n cur i) {k:Int} {s v:ByteArray} (hs:s.size≤8) (hv:v.size≤16):BD m k s v=((CX cfg cur k s v).1,(CX cfg cur k s v).2.1,(CX cfg cur k s v).2.2):=Zd h hs hv
theorem bY (k:Int) (s v:ByteArray):((CX cfg cur k s v).1==11)=false∧((CX cfg cur k s v).1==13)=false:=by
 unfold CX
 cases k==1
 ·cases k==2
  ·cases k==3<;>exact⟨rfl,rfl⟩
  ·cases (DB cur s).isSome<;>exact⟨rfl,rfl⟩
 ·cases KY cfg cur s v<;>exact⟨rfl,rfl⟩
abbrev cB (cfg:List Int) (m:AB) (n:Nat) (cur:List (EK.C Ab)) (k:Int) (s v:ByteArray):Value→AA→Prop:=fun vv H=>YP cfg (O2 cfg m cur k s v) n cur k s v (CX cfg cur k s v).2.2 vv ((Fw++Af 4 vv).map H.get)
theorem V6 (h:DX cfg m n cur i) {k:Int} (hk:k=1∨k=2∨k=3∨k=4) {s v:ByteArray} (hc:EU k 0 0 s v) (hs:s.size≤8) (hv:v.size≤16):
 As Q8 13 AI (cB cfg m n cur k s v) (Gw cfg m n (Ad n 12 cur.length) cur k 0 0 s v (CX cfg cur k s v).1 (CX cfg cur k s v).2.1 (CX cfg cur k s v).2.2 0):=by
 have ha:=Vk h (k:=k) hs hv
 obtain⟨h11,h13⟩:=bY (cfg:=cfg) (cur:=cur) k s v
 have hw:k≠7→DH m k 0 0 s v (CX cfg cur k s v).1 (CX cfg cur k s v).2.1=O2 cfg m cur k s v:=fun h7=>(Jb hc (int_ne h7) ha h11 h13).2
 unfold cB
 rcases hk with rfl | rfl | rfl | rfl
 ·rw[←hw (by decide)];exact Vw h hc ha h11 h13 18 0 rfl (by decide) (by decide)
 ·have e:(CX cfg cur 2 s v).2.2=false:=by unfold CX;cases (DB cur s).isSome<;>rfl
  rw[e]at ha
  rw[←hw (by decide),e];exact Xu h hc ha h11 h13 18 0 rfl (by decide) (by decide)
 ·rw[←hw (by decide)];exact YC h hc ha h11 h13 18 0 rfl (by decide) (by decide)
 ·rw[←hw (by decide)];exact Vc h hc ha h11 h13 18 0 rfl (by decide) (by decide)
theorem an (h:DX cfg m n cur i) {kind key val:Int} (hb:Gk kind∧Gk key∧Gk val):
 As Q8 13 AI (cB cfg m n cur (aK kind) (aS kind key) (aV kind val)) (st AI 116 [p9,.agg ⟨[.int .u8 kind,.int .u8 key,.int .u8 val]⟩] (dO cfg m n cur)):=by
 obtain⟨hc,hk,hs,hv⟩:=QX kind key val
 have hn:n < 1000000:=by have:=h.Ks;have:=h.le;omega
 have hl:List.length cur < 400000:=by have:=h.len;have:=h.le;omega
 have ht:=V6 h hk hc hs hv
 generalize hS:aS kind key=s at *
 generalize hV:aV kind val=v at *
 refine Bd (FT (DZ cur) (aK kind) s v) (ids:=[9,10,11,12]) (S:=P6) (by kernel_rfl) (Q:=fun _ _=>False) (R:=fun c=>c=Gw cfg m n (Ad n 12 cur.length) cur (aK kind) 0 0 s v (CX cfg cur (aK kind) s v).1 (CX cfg cur (aK kind) s v).2.1 (CX cfg cur (aK kind) s v).2.2 0) (fun vv H h=>h.elim) (fun c h=>by rw[h];exact ht) 400 _ ?_
 generalize hK:aK kind=k at *
 rcases hk with rfl | rfl | rfl | rfl
 ·have hsm:Gz (BY cur 1 s v):=by
   obtain⟨_,_,e3,e4,_⟩:=N8 h.sorted s v
   refine ND (fun x hx=>?_) (by have:=h.len;have:=h.le;omega)
   rcases e4 x hx with hx | rfl
   ·exact h.small x hx
   ·exact⟨show s.size≤16 by omega,hv⟩
  have hfin:(bif decide (BF (BY cur 1 s v)≤IntKind.wrap .i64 (Int.tdiv (IntKind.wrap .i64 (IntKind.wrap .i64 (IntKind.wrap .i64 (List.getD cfg 0 0 - List.getD cfg 2 0) - 2) * 84)) 2))then
   Gw cfg m n (FE [14,15] n cur) cur 1 0 0 s v 0 ({ data:=#[] }) true 0=Gw cfg m n (Ad n 12 cur.length) cur 1 0 0 s v (CX cfg cur 1 s v).1 (CX cfg cur 1 s v).2.1 (CX cfg cur 1 s v).2.2 0
   else Gw cfg m n (FE [14,15] n cur) cur 1 0 0 s v 4 ({ data:=#[] }) false 0=Gw cfg m n (Ad n 12 cur.length) cur 1 0 0 s v (CX cfg cur 1 s v).1 (CX cfg cur 1 s v).2.1 (CX cfg cur 1 s v).2.2 0):=by
   refine AT (fun hle=>?_) (fun hle=>?_)
   ·have e:CX cfg cur 1 s v=(0,e0,true):=by
     have:KY cfg cur s v=false:=decide_eq_false (by omega)
     unfold CX;rw[this];rfl
    rw[CV,e];rfl
   ·have e:CX cfg cur 1 s v=(4,e0,false):=by
     have:KY cfg cur s v=true:=decide_eq_true (by omega)
     unfold CX;rw[this];rfl
    rw[CV,e];rfl
  rw[Zn]
  refine⟨⟨hb,hK,hS,hV⟩,AE (D4 hn) (AE (G9 hn) ⟨rfl,rfl,JU hn,⟨⟨rfl,rfl⟩,by omega⟩,Az (fun e=>⟨by rw[e],?_⟩) (fun e=>⟨by rw[e],?_⟩)⟩)⟩
  ·exact AE (D4 hn) (AE (G9 hn) ⟨rfl,rfl,JU hn,⟨⟨rfl,rfl⟩,hl⟩,rfl,⟨⟨rfl,rfl⟩,hsm⟩,rfl,hfin⟩)
  ·exact AE (D4 hn) (AE (G9 hn) ⟨rfl,rfl,JU hn,⟨⟨rfl,rfl⟩,hl⟩,rfl,⟨⟨rfl,rfl⟩,hsm⟩,rfl,hfin⟩)
 ·rw[Y5]
  refine⟨⟨hb,hK,hS,hV⟩,AE (D4 hn) (AE (G9 hn) ⟨rfl,rfl,JU hn,⟨⟨rfl,rfl⟩,by omega⟩,Az (fun e=>⟨by rw[e],?_⟩) (fun e=>⟨by rw[e],?_⟩)⟩)⟩
  ·have e1:CX cfg cur 2 s v=(0,(DB cur s).getD e0,false):=by unfold CX;rw[e];rfl
   rw[CV,e1]
  ·have e1:CX cfg cur 2 s v=(5,e0,false):=by unfold CX;rw[e];rfl
   have e2:(DB cur s).getD e0=e0:=by
    cases hq:DB cur s with
    | none=>rfl
    | some o=>rw[hq]at e;cases e
   rw[CV,e1,e2]
 ·rw[Yk]
  refine⟨⟨hb,hK,hS,hV⟩,AE (D4 hn) (AE (G9 hn) ⟨rfl,rfl,JU hn,⟨⟨rfl,rfl⟩,by omega⟩,Az (fun e=>⟨by rw[e],?_⟩) (fun e=>⟨by rw[e],?_⟩)⟩)⟩
  ·have e1:CX cfg cur 3 s v=(0,e0,true):=by unfold CX;rw[e];rfl
   rw[CV,e1];rfl
  ·have e1:CX cfg cur 3 s v=(0,e0,false):=by unfold CX;rw[e];rfl
   rw[CV,e1];rfl
 ·rw[Yj]
  refine⟨⟨hb,hK,hS,hV⟩,AE (D4 hn) (AE (G9 hn) ⟨rfl,rfl,JU hn,⟨⟨rfl,rfl⟩,by omega⟩,Az (fun e=>⟨by rw[e],?_⟩) (fun e=>⟨by rw[e],?_⟩)⟩)⟩
  ·rw[CV];rfl
  ·rw[CV];rfl
end
end Go.AD

set_option maxRecDepth 1000000
namespace Go.AD
open Go.Proofs
theorem VI (ρ:Ren):EG ρ A5=some A5:=rfl
theorem NI {ρ:Ren} {a b len:Nat} (h:ρ a=some b):∀n,Cz (EG ρ) (Ad n a len)=some (Ad n b len)
 | 0=>by
  show Cz (EG ρ) [Value.slice (some ⟨a,0,some 0⟩) len AF]=_
  have e:EG ρ (.slice (some ⟨a,0,some 0⟩) len AF)=some (.slice (some ⟨b,0,some 0⟩) len AF):=by
   show EG ρ (Value.slice (some ⟨a,0,some 0⟩) len AF)=_
   simp only[EG,Bl,ON,h]
   rfl
  simp only[Cz,e]
  rfl
 | n+1=>by
  have ih:=NI h n (len:=len)
  have e1:∀z,Ad (n+1) z len=A5::Ad n z len:=fun z=>rfl
  rw[e1,e1]
  simp only[Cz,VI,ih]
theorem IU {ρ:Ren} {a b len n:Nat} {ro:Bool} (h:ρ a=some b):BR ρ (.vec [.tok] (Ad n a len) ro)=some (.vec [.tok] (Ad n b len) ro):=MP (NI h n)
theorem Nc (n z len:Nat) (ro:Bool):Em (.vec [.tok] (Ad n z len) ro)=[z]:=by
 show List.flatMap (Af 4) (List.replicate n A5++[Value.slice (some ⟨z,0,some 0⟩) len AF])=[z]
 rw[List.flatMap_append]
 have:List.flatMap (Af 4) (List.replicate n A5)=[]:=by
  induction n with
  | zero=>rfl
  | succ n ih=>rw[List.replicate_succ,List.flatMap_cons,ih];rfl
 rw[this];rfl
noncomputable def cu (cfg:List Int) (m:AB) (n:Nat) (cur:List (EK.C Ab)):AA:=BW ⟨.leaf,9⟩ [.cells (Pe cfg 10 11 (n+1)) 0 false,.abs (.pack (.model m)) false,.abs (.pack (.maps n cur)) false]
theorem YT (cfg:List Int) (m:AB) (n:Nat) (cur:List (EK.C Ab)):∀x,12≤x→(cu cfg m n cur).get x=none:=by
 intro x hx
 unfold cu
 rw[E6]
 show(if x < 9 then _ else _)=_
 rw[if_neg (by omega),List.getElem?_eq_none (by simp;omega)]
 rfl
theorem Zk (cfg:List Int) (m:AB) (n:Nat) (cur:List (EK.C Ab)):((cu cfg m n cur).put 11 (.vec [.tok] (Ad n 12 cur.length) false)).alloc (.vec Ab cur false)=dO cfg m n cur:=by kernel_rfl
theorem cp {X:Ctx} {f:FuncId} {Q:Value→AA→Prop} {nt:Nat} {args:List Value} {cfg:List Int} {m:AB} {n:Nat} {cur:List (EK.C Ab)} (hN:A4 X 12 (fun b=>9≤b∧b < 12) f Q (st f nt args (dO cfg m n cur))):A4 X 12 (fun b=>9≤b∧b < 12) f Q (st f nt args (cu cfg m n cur)):=by
 refine A4.opened (b:=11) (s:= .maps n cur) (ro:=false) ⟨by omega,by omega⟩ (by show(cu cfg m n cur).get 11=_;kernel_rfl) (fun ops p k h=>by cases h) fun objs hr=>?_
 cases hr with
 | maps=>
  refine⟨_,JW (H:=cu cfg m n cur) (b:=11) (ro:=false) (o:= .vec [.tok] (Ad n 1 cur.length) false) (o1:= .vec [.tok] (Ad n 12 cur.length) false) (p:= .vec Ab cur false) (p1:= .vec Ab cur false) (show 11 < 12 by decide) (YT cfg m n cur) (IU (ρ:=D0 11 12 2) rfl) rfl,?_⟩
  rw[Zk];exact hN
structure dz (cfg:List Int) (m:AB) (n:Nat) (cur:List (EK.C Ab)) (y z:Nat) (H:AA):Prop where
 nd:[9,10,y,z].Nodup
 g9:H.get 9=some (.cells (Pe cfg 10 y (n+1)) 0 false)
 g10:H.get 10=some (.abs (.pack (.model m)) false)
 gy:H.get y=some (.vec [.tok] (Ad n z cur.length) false)
 gz:H.get z=some (.vec Ab cur false)
theorem Kw {a b:Nat} (h:a≠b):Nat.beq a b=false:=by
 cases hq:Nat.beq a b
 ·rfl
 ·exact absurd (Nat.eq_of_beq_eq_true hq) h
theorem cI {D:Nat→Prop} {v:Value} {H:AA} {cfg:List Int} {m:AB} {n:Nat} {cur:List (EK.C Ab)} {y z:Nat} (hD:D 9) (h:dz cfg m n cur y z H):
 ∃H2,CB D v H H2∧H2.get 9=some (.cells (Pe cfg 10 y (n+1)) 0 false)∧H2.get 10=some (.abs (.pack (.model m)) false)∧H2.get y=some (.abs (.pack (.maps n cur)) false):=by
 have hnd:=h.nd
 simp only[List.nodup_cons,List.mem_cons,List.not_mem_nil,or_false,not_or,List.nodup_nil,and_true,not_false_eq_true]at hnd
 obtain⟨⟨n1,n2,n3⟩,⟨n4,n5⟩,n6⟩:=hnd
 have s1:=CY (s:= .maps n cur) (bs:=[y,z]) (H:=H) (by simp[n6])
 have hR:∀x,x=y∨x=z→x∈Ax H 0 200 [9] []:=by
  intro x hx
  rw[BS h.g9 rfl]
  show x∈Ax H 0 199 [10,y] [9]
  rw[BS h.g10 rfl]
  show x∈Ax H 0 198 [y] [9,10]
  rw[BS h.gy (by simp[Kw (Ne.symm n2),Kw (Ne.symm n4)]),Nc]
  show x∈Ax H 0 197 [z] [9,10,y]
  rw[BS h.gz (by simp[Kw (Ne.symm n3),Kw (Ne.symm n5),Kw (Ne.symm n6)])]
  exact B2 H 0 _ _ _ x (by rcases hx with rfl | rfl<;>simp)
 refine⟨DU (.maps n cur) [y,z] H,RX (s:= .maps n cur) (b:=y) (n:=z) (rs:=[9]) (o1:= .vec [.tok] (Ad n z cur.length) false) (p1:= .vec Ab cur false) (.maps n cur) (fun b hb=>by rw[List.mem_singleton]at hb;subst hb;exact .inr hD) (hR y (.inl rfl)) (hR z (.inr rfl)) (Ne.symm n6) h.gy rfl rfl (IU rfl) h.gz rfl rfl rfl (.refl _) rfl (fun T hv=>?_),?_,?_,s1.root y rfl⟩
 ·have:=hv.1
  have e:=congrArg List.length this
  rw[GZ]at e;cases e
 ·rw[s1.DN 9 (by simp[n2,n3])];exact h.g9
 ·rw[s1.DN 10 (by simp[n4,n5])];exact h.g10
def bK (cfg:List Int) (m:AB) (n:Nat) (cur:List (EK.C Ab)) (kind key val:Int):Prop:=(∃i,i < 1000∧DX cfg m n cur i)∧Gk kind∧Gk key∧Gk val
noncomputable def NC (cfg:List Int) (cur:List (EK.C Ab)) (kind key val:Int):Bool:= !(aK kind==4)&& !(CX cfg cur (aK kind) (aS kind key) (aV kind val)).2.2
noncomputable def cn (cfg:List Int) (m:AB) (cur:List (EK.C Ab)) (kind key val:Int):AB:=O2 cfg m cur (aK kind) (aS kind key) (aV kind val)
noncomputable def VS (cfg:List Int) (n:Nat) (cur:List (EK.C Ab)) (kind key val:Int):Nat:=Me cfg n cur (aK kind) (aS kind key) (aV kind val)
noncomputable def YX (cfg:List Int) (cur:List (EK.C Ab)) (kind key val:Int):List (EK.C Ab):=ME cfg cur (aK kind) (aS kind key) (aV kind val)
noncomputable def aG (args:List Value) (objs:List AJ):GT:=
 match args,objs with
 | [.pointer (some ⟨9,0,none⟩),.agg ⟨[.int .u8 kind,.int .u8 key,.int .u8 val]⟩],[.cells [.pointer (some ⟨10,0,none⟩),.int .i64 c0,.int .i64 c1,.int .i64 c2,.int .i64 c3,.int .i64 c4,.int .i64 c5,.int .i64 c6,.slice (some ⟨11,0,some 0⟩) nn cap] 0 _,.abs (.pack (.model m)) _,.abs (.pack (.maps n cur)) _]=>
  .ask ((nn=n+1∧cap=AF)∧bK [c0,c1,c2,c3,c4,c5,c6] m n cur kind key val) (.test (NC [c0,c1,c2,c3,c4,c5,c6] cur kind key val)
   (.ret ⟨.bool true,[some (.cells (Pe [c0,c1,c2,c3,c4,c5,c6] 10 11 (n+1)) 0 false),some (.abs (.pack (.model (cn [c0,c1,c2,c3,c4,c5,c6] m cur kind key val))) false),some (.abs (.pack (.maps n cur)) false)],[]⟩)
   (.ret ⟨.bool true,[some (.cells (Pe [c0,c1,c2,c3,c4,c5,c6] 10 12 (VS [c0,c1,c2,c3,c4,c5,c6] n cur kind key val+1)) 0 false),some (.abs (.pack (.model (cn [c0,c1,c2,c3,c4,c5,c6] m cur kind key val))) false),none],
    [.abs (.pack (.maps (VS [c0,c1,c2,c3,c4,c5,c6] n cur kind key val) (YX [c0,c1,c2,c3,c4,c5,c6] cur kind key val))) false]⟩))
 | _,_=> .fail
def di (cfg:List Int) (m:AB) (n:Nat) (cur:List (EK.C Ab)) (HS:Bool) (v:Value) (H:AA):Prop:=v= .bool true∧∃y z,dz cfg m n cur y z H∧(HS=true→y=11)∧(HS=false→12≤y)
theorem V0 {D:Nat→Prop} {cfg:List Int} {m':AB} {n:Nat} {cur:List (EK.C Ab)} {k:Int} {s v:ByteArray} {vv:Value} {H:AA} (hq:YP cfg m' n cur k s v (CX cfg cur k s v).2.2 vv ((Fw++Af 4 vv).map H.get)):
 ∃v2 H2,(∀(base:Env) (W0:World) (μ:Ah) (W:World) (v':Value),(∀b,D b→∃T,μ b=some T)→AH μ vv v'→AP base W0 μ H W→∃μ2,μ.le μ2∧AP base W0 μ2 H2 W∧AH μ2 v2 v')∧
  di cfg m' (Me cfg n cur k s v) (ME cfg cur k s v) (!(k==4)&& !(CX cfg cur k s v).2.2) v2 H2:=by
 obtain⟨rfl,hq⟩:=hq
 generalize hos:(Fw++Af 4 (.bool true)).map H.get=os at hq
 have hos:[H.get 9,H.get 10,H.get 11,H.get 12,H.get 16,H.get 17,H.get 18]=os:=hos
 generalize hu:(CX cfg cur k s v).2.2=u at hq
 unfold Me ME
 rw[hu]
 cases hq with
 | same a b c hk=>
  simp only[List.cons.injEq,and_true]at hos
  obtain⟨g9,g10,g11,g12,_⟩:=hos
  refine⟨_,H,fun base W0 μ W v' _ hv hH=>⟨μ,Ah.le_refl _,hH,hv⟩,rfl,11,12,⟨by decide,?_,g10,?_,?_⟩,fun _=>rfl,fun e=>?_⟩
  ·rw[hk];exact g9
  ·rw[hk];exact g11
  ·exact g12
  ·rw[hk]at e;cases e
 | app x hk=>
  simp only[List.cons.injEq,and_true]at hos
  obtain⟨g9,g10,g11,g12,g16,g17,g18⟩:=hos
  refine⟨_,H.put 18 (.vec [.tok] (List.replicate (List.take (n+1) (List.drop 0 (Ad n 12 cur.length))).length A5++[Value.slice (some ⟨16,0,some 0⟩) (BY cur k s v).length AF]) false),fun base W0 μ W v' _ hv hH=>⟨μ,Ah.le_refl _,hH.fT g18,hv⟩,rfl,18,16,⟨by decide,?_,?_,?_,?_⟩,fun e=>?_,fun _=>by decide⟩
  ·rw[AA.AN,if_neg (by decide),hk];exact g9
  ·rw[AA.AN,if_neg (by decide)];exact g10
  ·rw[AA.AN,if_pos rfl,hk,List.drop_zero,List.take_of_length_le (by rw[GZ];exact Nat.le_refl _),GZ];rfl
  ·rw[AA.AN,if_neg (by decide)];exact g16
  ·rw[hk]at e;cases e
 | fg a b hk=>
  simp only[List.cons.injEq,and_true]at hos
  obtain⟨g9,g10,g11,g12,g16,_⟩:=hos
  refine⟨_,(H.put 16 (.vec [.tok] [Value.slice (some ⟨12,0,some 0⟩) cur.length AF] false)).put 9 (.cells ((Pe cfg 10 11 0).take 8++ .slice (some ⟨16,0,some 0⟩) 1 AF::[]) 0 false),fun base W0 μ W v' _ hv hH=>⟨μ,Ah.le_refl _,?_,hv⟩,rfl,16,12,⟨by decide,?_,?_,?_,?_⟩,fun e=>?_,fun _=>by decide⟩
  ·have h1:=hH.MZ (k:=[.tok]) (l:=[Value.slice (some ⟨12,0,some 0⟩) cur.length AF]) (ro:=false) (by rw[Gh];exact g16)
   refine h1.Pu (n:=16) (len:=1) (cap:=1) (l:=[Value.slice (some ⟨12,0,some 0⟩) cur.length AF]) (ro2:=false) ?_ (by rw[AA.AN,if_pos rfl]) (by decide) (by decide) (Nat.le_refl 1) (by decide)
   rw[AA.AN,if_neg (by decide)];exact g9
  ·rw[AA.AN,if_pos rfl,hk];rfl
  ·rw[AA.AN,if_neg (by decide),AA.AN,if_neg (by decide)];exact g10
  ·rw[AA.AN,if_neg (by decide),AA.AN,if_pos rfl,hk];rfl
  ·rw[AA.AN,if_neg (by decide),AA.AN,if_neg (by decide)];exact g12
  ·rw[hk]at e;cases e
theorem YW:Da Tryz.prog AL AI (A3 AL 9 [true,true,true] aG):=by
 refine Bs eh (by kernel_rfl) (n:=116) (by kernel_rfl) (by kernel_rfl) fun argsc objs x hx hro=>?_
 unfold aG at hx
 split at hx
 ·rename_i kind key val c0 c1 c2 c3 c4 c5 c6 nn cap r0 m r1 n cur r2
  simp only[GT.run]at hx
  split at hx
  ·rename_i hok
   obtain⟨⟨rfl,rfl⟩,⟨i,hi,hinv⟩,hb⟩:=hok
   have e0:r0=false:=hro 0 _ rfl rfl
   have e1:r1=false:=hro 1 _ rfl rfl
   have e2:r2=false:=hro 2 _ rfl rfl
   subst e0 e1 e2
   generalize hcfg:[c0,c1,c2,c3,c4,c5,c6]=cfg at *
   have hroot:AJ.cells [.pointer (some ⟨10,0,none⟩),.int .i64 c0,.int .i64 c1,.int .i64 c2,.int .i64 c3,.int .i64 c4,.int .i64 c5,.int .i64 c6,.slice (some ⟨11,0,some 0⟩) (n+1) AF] 0 false= .cells (Pe cfg 10 11 (n+1)) 0 false:=by rw[←hcfg];rfl
   refine⟨by simp,?_⟩
   rw[hroot]
   show A4 Q8 12 (fun b=>9≤b∧b < 12) AI _ (st AI 116 [p9,.agg ⟨[.int .u8 kind,.int .u8 key,.int .u8 val]⟩] (cu cfg m n cur))
   refine A4.shut (Q:=di cfg (cn cfg m cur kind key val) (VS cfg n cur kind key val) (YX cfg cur kind key val) (NC cfg cur kind key val)) (cp (A4.tell (As.lower (by decide) (an hinv hb)).Ko fun v H hq=>V0 hq)) ?_
   rintro v H ⟨rfl,y,z,hK,hy1,hy2⟩
   obtain⟨H2,k1,k2,k3,k4⟩:=cI (D:=fun b=>9≤b∧b < 9+3) (v:= .bool true) ⟨by decide,by decide⟩ hK
   refine⟨H2,k1,?_⟩
   cases hkeep:NC cfg cur kind key val
   ·rw[hkeep]at hx
    cases hx
    have hy:=hy2 hkeep
    refine⟨[y],by simp,fun c hc=>by simp at hc;show 12≤c;omega,rfl,rfl,fun j c p hj hp=>?_,fun j o hj hm ho=>?_⟩
    ·cases j with
     | zero=>cases hj;cases hp;exact⟨_,rfl,k4⟩
     | succ j=>cases j<;>cases hj
    ·cases j with
     | zero=>cases ho;exact⟨_,rfl,k2⟩
     | succ j=>cases j with
      | zero=>cases ho;exact⟨_,rfl,k3⟩
      | succ j=>cases j with
       | zero=>cases ho
       | succ j=>exact absurd hj (by show ¬(j+3 < 3);omega)
   ·rw[hkeep]at hx
    cases hx
    have hy:=hy1 hkeep
    subst hy
    have hkk:VS cfg n cur kind key val=n∧YX cfg cur kind key val=cur:=by
     unfold NC at hkeep
     simp only[Bool.and_eq_true,Bool.not_eq_true']at hkeep
     unfold VS YX Me ME
     rw[hkeep.1,hkeep.2];exact⟨rfl,rfl⟩
    rw[hkk.1]at k2 k4
    rw[hkk.2]at k4
    refine⟨[],List.nodup_nil,(fun c hc=>by cases hc),rfl,rfl,(fun j c p hj hp=>by cases hj),fun j o hj hm ho=>?_⟩
    cases j with
    | zero=>cases ho;exact⟨_,rfl,k2⟩
    | succ j=>cases j with
     | zero=>cases ho;exact⟨_,rfl,k3⟩
     | succ j=>cases j with
      | zero=>cases ho;exact⟨_,rfl,k4⟩
      | succ j=>exact absurd hj (by show ¬(j+3 < 3);omega)
  ·cases hx
 ·cases hx
end Go.AD

set_option maxRecDepth 1000000
namespace Go.AD
open Go.Proofs
theorem F8 (l:List (EK.C kS)):DG l l=true:=by unfold DG;simp
end Go.AD

set_option maxRecDepth 1000000
namespace Go.AD
open Go.Proofs
theorem br (slots:Int) (Q:Value→List (Option AJ)→Prop):Gv XM Vb BM [26,27,28,29,30] Q 3000 (st BM 28 [.int .u8 slots] ⟨.leaf,9⟩)=(
 (((.int .i64 0):Value)=(.int .i64 0))∧(((.agg ⟨[(.int .i64 1),(.int .i64 1),(.int .i64 2)]⟩):Value)=(.agg ⟨[(.int .i64 1),(.int .i64 1),(.int .i64 2)]⟩))∧(((.int .i64 1):Value)=(.int .i64 1))∧(((.pointer (some ⟨14,6,none⟩)):Value)=(.pointer (some ⟨14,6,none⟩)))∧(((.agg ⟨[(.int .i64 (IntKind.wrap .i64 (4+IntKind.wrap .i64 (Int.tmod slots 8)))),(.int .i64 100),(.int .i64 2),(.int .i64 200),(.int .i64 8),(.int .i64 16),(.int .i64 1)]⟩):Value)=(.agg ⟨[(.int .i64 (IntKind.wrap .i64 (4+IntKind.wrap .i64 (Int.tmod slots 8)))),(.int .i64 100),(.int .i64 2),(.int .i64 200),(.int .i64 8),(.int .i64 16),(.int .i64 1)]⟩))∧(((.int .i64 200):Value)=(.int .i64 200))∧(((.pointer (some ⟨14,3,none⟩)):Value)=(.pointer (some ⟨14,3,none⟩)))∧(((.int .i64 100):Value)=(.int .i64 100))∧(((.pointer (some ⟨14,1,none⟩)):Value)=(.pointer (some ⟨14,1,none⟩)))∧(((.agg ⟨[(.int .i64 16),(.int .i64 0),(.int .i64 512)]⟩):Value)=(.agg ⟨[(.int .i64 16),(.int .i64 0),(.int .i64 512)]⟩))∧(((.int .i64 16):Value)=(.int .i64 16))∧(((.pointer (some ⟨14,5,none⟩)):Value)=(.pointer (some ⟨14,5,none⟩)))∧(((.agg ⟨[(.int .i64 8),(.int .i64 1),(.int .i64 32)]⟩):Value)=(.agg ⟨[(.int .i64 8),(.int .i64 1),(.int .i64 32)]⟩))∧(((.int .i64 8):Value)=(.int .i64 8))∧(((.pointer (some ⟨14,4,none⟩)):Value)=(.pointer (some ⟨14,4,none⟩)))∧(((.agg ⟨[(.int .i64 (IntKind.wrap .i64 (4+IntKind.wrap .i64 (Int.tmod slots 8)))),(.int .i64 4),(.int .i64 32)]⟩):Value)=(.agg ⟨[(.int .i64 (IntKind.wrap .i64 (4+IntKind.wrap .i64 (Int.tmod slots 8)))),(.int .i64 4),(.int .i64 32)]⟩))∧(((.int .i64 4):Value)=(.int .i64 4))∧(((.int .i64 2):Value)=(.int .i64 2))∧(((.pointer (some ⟨14,2,none⟩)):Value)=(.pointer (some ⟨14,2,none⟩)))∧(((.int .i64 (IntKind.wrap .i64 (4+IntKind.wrap .i64 (Int.tmod slots 8)))):Value)=(.int .i64 (IntKind.wrap .i64 (4+IntKind.wrap .i64 (Int.tmod slots 8)))))∧(((.pointer (some ⟨14,0,none⟩)):Value)=(.pointer (some ⟨14,0,none⟩)))∧(((.agg ⟨[(.int .i64 2),(.int .i64 2),(.int .i64 8)]⟩):Value)=(.agg ⟨[(.int .i64 2),(.int .i64 2),(.int .i64 8)]⟩))∧(((.int .i64 2):Value)=(.int .i64 2))∧(((.pointer (some ⟨14,2,none⟩)):Value)=(.pointer (some ⟨14,2,none⟩)))∧(((.agg ⟨[(.int .i64 100),(.int .i64 56),(.int .i64 8192)]⟩):Value)=(.agg ⟨[(.int .i64 100),(.int .i64 56),(.int .i64 8192)]⟩))∧(((.int .i64 56):Value)=(.int .i64 56))∧(((.int .i64 0):Value)=(.int .i64 0))∧(((.agg ⟨[(.int .i64 1),(.int .i64 1),(.int .i64 2)]⟩):Value)=(.agg ⟨[(.int .i64 1),(.int .i64 1),(.int .i64 2)]⟩))∧(((.int .i64 1):Value)=(.int .i64 1))∧(((.pointer (some ⟨14,6,none⟩)):Value)=(.pointer (some ⟨14,6,none⟩)))∧(((.int .i64 200):Value)=(.int .i64 200))∧(((.pointer (some ⟨14,3,none⟩)):Value)=(.pointer (some ⟨14,3,none⟩)))∧(((.int .i64 100):Value)=(.int .i64 100))∧(((.pointer (some ⟨14,1,none⟩)):Value)=(.pointer (some ⟨14,1,none⟩)))∧(((.agg ⟨[(.int .i64 16),(.int .i64 0),(.int .i64 512)]⟩):Value)=(.agg ⟨[(.int .i64 16),(.int .i64 0),(.int .i64 512)]⟩))∧
 (((.int .i64 16):Value)=(.int .i64 16))∧(((.pointer (some ⟨14,5,none⟩)):Value)=(.pointer (some ⟨14,5,none⟩)))∧(((.agg ⟨[(.int .i64 8),(.int .i64 1),(.int .i64 32)]⟩):Value)=(.agg ⟨[(.int .i64 8),(.int .i64 1),(.int .i64 32)]⟩))∧(((.int .i64 8):Value)=(.int .i64 8))∧(((.pointer (some ⟨14,4,none⟩)):Value)=(.pointer (some ⟨14,4,none⟩)))∧(((.agg ⟨[(.int .i64 (IntKind.wrap .i64 (4+IntKind.wrap .i64 (Int.tmod slots 8)))),(.int .i64 4),(.int .i64 32)]⟩):Value)=(.agg ⟨[(.int .i64 (IntKind.wrap .i64 (4+IntKind.wrap .i64 (Int.tmod slots 8)))),(.int .i64 4),(.int .i64 32)]⟩))∧(((.int .i64 4):Value)=(.int .i64 4))∧(((.int .i64 2):Value)=(.int .i64 2))∧(((.pointer (some ⟨14,2,none⟩)):Value)=(.pointer (some ⟨14,2,none⟩)))∧(((.int .i64 (IntKind.wrap .i64 (4+IntKind.wrap .i64 (Int.tmod slots 8)))):Value)=(.int .i64 (IntKind.wrap .i64 (4+IntKind.wrap .i64 (Int.tmod slots 8)))))∧(((.pointer (some ⟨14,0,none⟩)):Value)=(.pointer (some ⟨14,0,none⟩)))∧(((.agg ⟨[(.int .i64 2),(.int .i64 2),(.int .i64 8)]⟩):Value)=(.agg ⟨[(.int .i64 2),(.int .i64 2),(.int .i64 8)]⟩))∧(((.int .i64 2):Value)=(.int .i64 2))∧(((.pointer (some ⟨14,2,none⟩)):Value)=(.pointer (some ⟨14,2,none⟩)))∧(bif decide (IntKind.wrap .i64 (4+IntKind.wrap .i64 (Int.tmod slots 8)) < 4)then(Q (.pointer none) [none,none,none,none,none])else(bif decide (IntKind.wrap .i64 (4+IntKind.wrap .i64 (Int.tmod slots 8)) > 32)then(Q (.pointer none) [none,none,none,none,none])else(((.int .i64 (IntKind.wrap .i64 (IntKind.wrap .i64 (IntKind.wrap .i64 (4+IntKind.wrap .i64 (Int.tmod slots 8)) - 2) - 2))):Value)=(.int .i64 (IntKind.wrap .i64 (IntKind.wrap .i64 (IntKind.wrap .i64 (4+IntKind.wrap .i64 (Int.tmod slots 8)) - 2) - 2))))∧(((.int .i64 (IntKind.wrap .i64 (IntKind.wrap .i64 (4+IntKind.wrap .i64 (Int.tmod slots 8)) - 2))):Value)=(.int .i64 (IntKind.wrap .i64 (IntKind.wrap .i64 (4+IntKind.wrap .i64 (Int.tmod slots 8)) - 2))))∧(((.int .i64 2):Value)=(.int .i64 2))∧(((.pointer (some ⟨12,2,none⟩)):Value)=(.pointer (some ⟨12,2,none⟩)))∧(((.int .i64 (IntKind.wrap .i64 (4+IntKind.wrap .i64 (Int.tmod slots 8)))):Value)=(.int .i64 (IntKind.wrap .i64 (4+IntKind.wrap .i64 (Int.tmod slots 8)))))∧(((.pointer (some ⟨12,0,none⟩)):Value)=(.pointer (some ⟨12,0,none⟩)))∧(((.int .i64 (IntKind.wrap .i64 (Int.tdiv (IntKind.wrap .i64 (IntKind.wrap .i64 (IntKind.wrap .i64 (IntKind.wrap .i64 (4+IntKind.wrap .i64 (Int.tmod slots 8)) - 2) - 2) * 84)) 2))):Value)=(.int .i64 (IntKind.wrap .i64 (Int.tdiv (IntKind.wrap .i64 (IntKind.wrap .i64 (IntKind.wrap .i64 (IntKind.wrap .i64 (4+IntKind.wrap .i64 (Int.tmod slots 8)) - 2) - 2) * 84)) 2))))∧(((.agg ⟨[(.int .i64 (IntKind.wrap .i64 (4+IntKind.wrap .i64 (Int.tmod slots 8)))),(.int .i64 100),(.int .i64 2),(.int .i64 200),(.int .i64 8),(.int .i64 16),(.int .i64 1)]⟩):Value)=(.agg ⟨[(.int .i64 (IntKind.wrap .i64 (4+IntKind.wrap .i64 (Int.tmod slots 8)))),(.int .i64 100),(.int .i64 2),(.int .i64 200),(.int .i64 8),(.int .i64 16),(.int .i64 1)]⟩))∧
 (((.int .i64 (IntKind.wrap .i64 (Int.tdiv (IntKind.wrap .i64 (IntKind.wrap .i64 (IntKind.wrap .i64 (IntKind.wrap .i64 (4+IntKind.wrap .i64 (Int.tmod slots 8)) - 2) - 2) * 84)) 2))):Value)=(.int .i64 (IntKind.wrap .i64 (Int.tdiv (IntKind.wrap .i64 (IntKind.wrap .i64 (IntKind.wrap .i64 (IntKind.wrap .i64 (4+IntKind.wrap .i64 (Int.tmod slots 8)) - 2) - 2) * 84)) 2))))∧(((.agg ⟨[(.int .i64 (IntKind.wrap .i64 (4+IntKind.wrap .i64 (Int.tmod slots 8)))),(.int .i64 100),(.int .i64 2),(.int .i64 200),(.int .i64 8),(.int .i64 16),(.int .i64 1)]⟩):Value)=(.agg ⟨[(.int .i64 (IntKind.wrap .i64 (4+IntKind.wrap .i64 (Int.tmod slots 8)))),(.int .i64 100),(.int .i64 2),(.int .i64 200),(.int .i64 8),(.int .i64 16),(.int .i64 1)]⟩))∧(Q (.pointer (some ⟨30,0,none⟩)) [some (.abs (AZ.pack (Pk.table [])) false),some (.abs (AZ.pack (Pk.table [])) false),some (.cells [(.int .i64 (IntKind.wrap .i64 (4+IntKind.wrap .i64 (Int.tmod slots 8)))),(.int .i64 100),(.int .i64 2),(.int .i64 200),(.int .i64 8),(.int .i64 16),(.int .i64 1),(.int .i64 (IntKind.wrap .i64 (Int.tdiv (IntKind.wrap .i64 (IntKind.wrap .i64 (IntKind.wrap .i64 (IntKind.wrap .i64 (4+IntKind.wrap .i64 (Int.tmod slots 8)) - 2) - 2) * 84)) 2))),(.pointer (some ⟨26,0,none⟩)),(.pointer (some ⟨27,0,none⟩)),(.int .i64 0),(.slice none 0 0),(.pointer none),(.int .i64 0),(.bool false)] 0 false),some (.cells [(.slice none 0 0)] 1 false),some (.cells [(.pointer (some ⟨28,0,none⟩)),(.int .i64 (IntKind.wrap .i64 (4+IntKind.wrap .i64 (Int.tmod slots 8)))),(.int .i64 100),(.int .i64 2),(.int .i64 200),(.int .i64 8),(.int .i64 16),(.int .i64 1),(.slice (some ⟨29,0,none⟩) 1 1)] 0 false),some (.cells [(.pointer (some ⟨28,0,none⟩)),(.int .i64 (IntKind.wrap .i64 (4+IntKind.wrap .i64 (Int.tmod slots 8)))),(.int .i64 100),(.int .i64 2),(.int .i64 200),(.int .i64 8),(.int .i64 16),(.int .i64 1),(.slice (some ⟨29,0,none⟩) 1 1)] 0 false)])))):=by kernel_rfl
end Go.AD

set_option maxRecDepth 1000000
namespace Go.AD
open Go.Proofs
theorem S8 {x:Int} (h:Gk x):0≤Int.tmod x 8∧Int.tmod x 8≤7:=by
 obtain⟨h1,_⟩:=h
 rw[Int.tmod_eq_emod_of_nonneg h1]
 have:=Int.emod_nonneg x (show(8:Int)≠0 by decide)
 have:=Int.emod_lt_of_pos x (show(0:Int) < 8 by decide)
 omega
noncomputable def m0 (s:Int):AB:=⟨B9 s,42 * s,[],[],0,[],0,false⟩
noncomputable def fj (s:Int):List Value:=(Pe (B9 s) 28 29 0).take 8++[.slice (some ⟨29,0,none⟩) 1 1]
theorem WL {slots:Int} (h:Gk slots):IntKind.wrap .i64 (4+IntKind.wrap .i64 (Int.tmod slots 8))=4+Int.tmod slots 8:=by
 obtain⟨h1,h2⟩:=S8 h
 rw[wrap64 (x:=Int.tmod slots 8) (by omega) (by omega),wrap64 (by omega) (by omega)]
theorem YR {s:Int} (h0:0≤s) (h7:s≤7):IntKind.wrap .i64 (Int.tdiv (IntKind.wrap .i64 (IntKind.wrap .i64 (IntKind.wrap .i64 (4+s - 2) - 2) * 84)) 2)=42 * s:=Wt h0 h7
theorem ab {slots:Int} (h:Gk slots):As XM 9 BM (fun v H=>v=JH 30∧[H.get 26,H.get 27,H.get 28,H.get 29,H.get 30]=[some (DP []),some (DP []),some (.cells (BV (m0 (Int.tmod slots 8)) 26 27 (.slice none 0 0)) 0 false),some (.cells [.slice none 0 0] 1 false),some (.cells (fj (Int.tmod slots 8)) 0 false)])
 (st BM 28 [.int .u8 slots] ⟨.leaf,9⟩):=by
 obtain⟨h1,h2⟩:=S8 h
 have hw:=WL h
 have hl:=YR h1 h2
 refine(B8.Gq (B6 Hs (ids:=[26,27,28,29,30]) (Q:=fun v os=>v=JH 30∧∃x,os=[some (DP []),some (DP []),some (.cells (BV (m0 (Int.tmod slots 8)) 26 27 (.slice none 0 0)) 0 false),some (.cells [.slice none 0 0] 1 false),some (.cells (fj (Int.tmod slots 8)) 0 false),x]) 3000 _ ?_)).mono ?_
 ·rw[br,hw,hl]
  repeat' first
   | refine And.intro rfl ?_
   | refine AT (fun h=>absurd h (by omega)) (fun _=>?_)
  exact⟨_,rfl⟩
 ·rintro v H ⟨rfl,x,hh⟩
  have hh:[H.get 26,H.get 27,H.get 28,H.get 29,H.get 30,H.get 30]=_:=hh
  refine⟨rfl,?_⟩
  simp only[List.cons.injEq,and_true]at hh ⊢
  exact⟨hh.1,hh.2.1,hh.2.2.1,hh.2.2.2.1,hh.2.2.2.2.1⟩
noncomputable def ZU (args:List Value) (objs:List AJ):GT:=
 match args,objs with
 | [.int .u8 slots],[]=> .ask (Gk slots) (.ret ⟨.pointer (some ⟨9,0,none⟩),[],[.cells (Pe (B9 (Int.tmod slots 8)) 10 11 (0+1)) 0 false,.abs (.pack (.model (m0 (Int.tmod slots 8)))) false,.abs (.pack (.maps 0 [])) false]⟩)
 | _,_=> .fail
theorem eX {s:Int} (h0:0≤s) (h7:s≤7):DX (B9 s) (m0 s) 0 [] 0:=
 ⟨⟨s,h0,h7,rfl,rfl,rfl⟩,rfl,List.Pairwise.nil,rfl,rfl,rfl,rfl,Nat.le_refl _,Nat.le_refl _,Nat.le_refl _,(fun x hx=>by cases hx),by decide⟩
theorem aL:Da Tryz.prog AL BM (A3 AL 9 [] ZU):=by
 refine Bs allM (by kernel_rfl) (n:=28) (by kernel_rfl) (by kernel_rfl) fun argsc objs x hx hro=>?_
 unfold ZU at hx
 split at hx
 ·rename_i slots
  simp only[GT.run]at hx
  split at hx
  ·rename_i hb
   cases hx
   refine⟨by simp,?_⟩
   show A4 XM 9 (fun b=>9≤b∧b < 9) BM _ (st BM 28 [.int .u8 slots] ⟨.leaf,9⟩)
   generalize hs:Int.tmod slots 8=s
   refine A4.shut (Q:=fun v H=>v=JH 30∧∃z1 z2,100≤z1∧100≤z2∧z1≠z2∧H.get 26=some (DP [])∧H.get 27=some (DP [])∧H.get 28=some (.cells (BV (m0 s) 26 27 (.slice (some ⟨z1,0,some 0⟩) 0 AF)) 0 false)∧H.get z1=some (.vec CW [] false)∧
    H.get 29=some (.vec [.tok] (Ad 0 z2 0) false)∧H.get z2=some (.vec Ab [] false)∧H.get 30=some (.cells (Pe (B9 s) 28 29 (0+1)) 0 false)) ((ab hb).Ko.tell ?_) ?_
   ·rintro v H ⟨rfl,hh⟩
    rw[hs]at hh
    simp only[List.cons.injEq,and_true]at hh
    obtain⟨g26,g27,g28,g29,g30⟩:=hh
    have n1:=H.D5
    have e1:H.BU=max H.next 100:=rfl
    generalize hH1:(H.CQ CW).put 28 (.cells (BV (m0 s) 26 27 (.slice (some ⟨H.BU,0,some 0⟩) 0 AF)) 0 false)=H1
    have e2:H1.next=max H.next 100+1:=by rw[←hH1];rfl
    have n2:=H1.D5
    have e3:H1.BU=max H1.next 100:=rfl
    have hne:H.BU≠H1.BU:=by omega
    have o1:∀y,y < 100→y≠28→H1.get y=H.get y:=fun y hy h28=>by rw[←hH1,AA.AN,if_neg h28,AA.CL,if_neg (by omega)]
    generalize hH2:(H1.CQ Ab).put 29 (.cells ([]++ .slice (some ⟨H1.BU,0,some 0⟩) 0 AF::[]) 1 false)=H2
    have o2:∀y,y≠H1.BU→y≠29→H2.get y=H1.get y:=fun y hy h29=>by rw[←hH2,AA.AN,if_neg h29,AA.CL,if_neg hy]
    refine⟨_,(H2.put 29 (.vec [.tok] [Value.slice (some ⟨H1.BU,0,some 0⟩) 0 AF] false)).put 30 (.cells ((Pe (B9 s) 28 29 0).take 8++ .slice (some ⟨29,0,some 0⟩) 1 AF::[]) 0 false),fun base W0 μ W v' _ hv hH=>?_,rfl,H.BU,H1.BU,n1,n2,hne,?_,?_,?_,?_,?_,?_,?_⟩
    ·have hT:=N2 hv
     obtain⟨μ2,a1,a2⟩:=hH.MB (k:=CW) (pre:=(BV (m0 s) 26 27 (.slice none 0 0)).take 11) (post:=(BV (m0 s) 26 27 (.slice none 0 0)).drop 12) hT (fun _=>HI) g28 (by decide)
     have a3:AP base W0 μ2 H1 W:=by rw[←hH1];exact a2
     obtain⟨T,hT⟩:=hT
     obtain⟨μ3,b1,b2⟩:=a3.MB (k:=Ab) (b:=29) (pre:=[]) (post:=[]) (e:=1) (ro:=false) ⟨T,a1 _ T hT⟩ (fun _=>HI) (by rw[o1 29 (by decide) (by decide)];exact g29) (by decide)
     rw[hH2]at b2
     have b3:=b2.MZ (k:=[.tok]) (l:=[Value.slice (some ⟨H1.BU,0,some 0⟩) 0 AF]) (ro:=false) (b:=29) (by rw[Gh,←hH2,AA.AN,if_pos rfl];rfl)
     refine⟨μ3,Ah.le_trans a1 b1,b3.Pu (n:=29) (len:=1) (cap:=1) (l:=[Value.slice (some ⟨H1.BU,0,some 0⟩) 0 AF]) (ro2:=false) ?_ (by rw[AA.AN,if_pos rfl]) (by decide) (by decide) (Nat.le_refl 1) (by decide),(hv.mono a1).mono b1⟩
     rw[AA.AN,if_neg (by decide),o2 30 (by omega) (by decide),o1 30 (by decide) (by decide)];exact g30
    ·rw[AA.AN,if_neg (by decide),AA.AN,if_neg (by decide),o2 26 (by omega) (by decide),o1 26 (by decide) (by decide)];exact g26
    ·rw[AA.AN,if_neg (by decide),AA.AN,if_neg (by decide),o2 27 (by omega) (by decide),o1 27 (by decide) (by decide)];exact g27
    ·rw[AA.AN,if_neg (by decide),AA.AN,if_neg (by decide),o2 28 (by omega) (by decide),←hH1,AA.AN,if_pos rfl]
    ·rw[AA.AN,if_neg (by omega),AA.AN,if_neg (by omega),o2 _ hne (by omega),←hH1,AA.AN,if_neg (by omega),AA.CL,if_pos rfl]
    ·rw[AA.AN,if_neg (by decide),AA.AN,if_pos rfl];rfl
    ·rw[AA.AN,if_neg (by omega),AA.AN,if_neg (by omega),←hH2,AA.AN,if_neg (by omega),AA.CL,if_pos rfl]
    ·rw[AA.AN,if_pos rfl];rfl
   ·rintro v H ⟨rfl,z1,z2,n1,n2,hne,g26,g27,g28,gz1,g29,gz2,g30⟩
    have hnd:[28,26,27,z1].Nodup:=by
     simp only[List.nodup_cons,List.mem_cons,List.not_mem_nil,or_false,not_or,List.nodup_nil,and_true,not_false_eq_true]
     omega
    have s1:=CY (s:= .model (m0 s)) (bs:=[28,26,27,z1]) (H:=H) hnd
    generalize hH2:DU (.model (m0 s)) [28,26,27,z1] H=H2 at s1
    have DN:∀y,y∉[28,26,27,z1]→H2.get y=H.get y:=fun y hy=>s1.DN y hy
    have k30:H2.get 30=some (.cells (Pe (B9 s) 28 29 (0+1)) 0 false):=by rw[DN 30 (by simp;omega)];exact g30
    have k29:H2.get 29=some (.vec [.tok] (Ad 0 z2 0) false):=by rw[DN 29 (by simp;omega)];exact g29
    have kz2:H2.get z2=some (.vec Ab [] false):=by rw[DN z2 (by simp;omega)];exact gz2
    have k28:H2.get 28=some (.abs (.pack (.model (m0 s))) false):=s1.root 28 rfl
    have hrs:∀b∈[30],b∈Af 4 (JH 30)∨(9≤b∧b < 9+([]:List AJ).length):=fun b hb=>by rw[List.mem_singleton]at hb;subst hb;exact .inl (by simp[Af,JH])
    have hR1:∀x∈[28,26,27,z1],x∈Ax H 0 200 [30] []:=by
     intro x hx
     rw[BS g30 rfl]
     show x∈Ax H 0 199 [28,29] [30]
     rw[BS g28 rfl]
     show x∈Ax H 0 198 [26,27,z1,29] [30,28]
     rw[BS g26 rfl]
     show x∈Ax H 0 197 [27,z1,29] [30,28,26]
     rw[BS g27 rfl]
     show x∈Ax H 0 196 [z1,29] [30,28,26,27]
     rw[BS gz1 (by simp[Kw (show z1≠30 by omega),Kw (show z1≠28 by omega),Kw (show z1≠26 by omega),Kw (show z1≠27 by omega)])]
     refine B2 H 0 _ _ _ x ?_
     simp only[List.mem_cons,List.not_mem_nil,or_false]at hx
     rcases hx with rfl | rfl | rfl | rfl<;>simp
    have hR2:∀x∈[29,z2],x∈Ax H2 0 200 [30] []:=by
     intro x hx
     rw[BS k30 rfl]
     show x∈Ax H2 0 199 [28,29] [30]
     rw[BS k28 rfl]
     show x∈Ax H2 0 198 [29] [30,28]
     rw[BS k29 rfl,Nc]
     show x∈Ax H2 0 197 [z2] [30,28,29]
     rw[BS kz2 (by simp[Kw (show z2≠30 by omega),Kw (show z2≠28 by omega),Kw (show z2≠29 by omega)])]
     refine B2 H2 0 _ _ _ x ?_
     simp only[List.mem_cons,List.not_mem_nil,or_false]at hx
     rcases hx with rfl | rfl<;>simp
    have s2:=CY (s:= .maps 0 []) (bs:=[29,z2]) (H:=H2) (by simp;omega)
    refine⟨DU (.maps 0 []) [29,z2] H2,?_,?_⟩
    ·refine .step (.model (m0 s)) _ [28,26,27,z1] [30] (.model (m0 s)) (by simp) rfl hnd hrs hR1 (fun i b o hi ho=>?_) (fun o T ho=>by cases ho;exact id) ?_
     ·match i,hi,ho with
      | 0,hi,ho=>cases hi;cases ho;exact⟨_,g28,rfl,rfl,rfl⟩
      | 1,hi,ho=>cases hi;cases ho;exact⟨_,g26,rfl,rfl,rfl⟩
      | 2,hi,ho=>cases hi;cases ho;exact⟨_,g27,rfl,rfl,rfl⟩
      | 3,hi,ho=>cases hi;cases ho;exact⟨_,gz1,rfl,rfl,rfl⟩
      | i+4,hi,ho=>cases hi
     ·rw[hH2]
      exact RX (s:= .maps 0 []) (b:=29) (n:=z2) (rs:=[30]) (o:= .vec [.tok] (Ad 0 1 0) false) (o1:= .vec [.tok] (Ad 0 z2 0) false) (p1:= .vec Ab [] false) (.maps 0 []) hrs (hR2 29 (by simp)) (hR2 z2 (by simp)) (by omega) k29 rfl rfl (IU rfl) kz2 rfl rfl rfl (.refl _) rfl (fun T hv=>by cases hv.1)
    ·refine⟨[30,28,29],by decide,(fun c hc=>by simp at hc;show 9≤c;omega),rfl,rfl,fun j c p hj hp=>?_,fun j o hj=>absurd hj (by show ¬(j < 0);omega)⟩
     match j,hj,hp with
     | 0,hj,hp=>cases hj;cases hp;exact⟨_,rfl,by rw[s2.DN 30 (by simp;omega)];exact k30⟩
     | 1,hj,hp=>cases hj;cases hp;exact⟨_,rfl,by rw[s2.DN 28 (by simp;omega)];exact k28⟩
     | 2,hj,hp=>cases hj;cases hp;exact⟨_,rfl,s2.root 29 rfl⟩
     | j+3,hj,hp=>cases hj
  ·cases hx
 ·cases hx
end Go.AD

set_option maxRecDepth 1000000
namespace Go.AD
open Go.Proofs
noncomputable def dr (m:AB) (l1 l2:List (EK.C kS)):AA:=BW ⟨.leaf,9⟩ [.cells (BV m 12 13 (.slice (some ⟨14,0,some 0⟩) m.AG.length AF)) 0 false,.vec kS l1 true,.vec kS l2 true,.abs (.pack (.table m.base)) false,.abs (.pack (.table m.now)) false,.vec CW m.AG false]
theorem cg (cfg:List Int) (AS:Int) (base now:List (EK.C Ab)) (cost:Int) (AG:List (EK.C CW)) (pl:Bool) (l1 l2:List (EK.C kS)) (n1 c1 n2 c2:Nat) (Q:Value→List (Option AJ)→Prop):Gv XM Vb BN [9,12,13,14] Q 600 (st BN 68 [p9,.slice (some ⟨10,0,some 0⟩) n1 c1,.slice (some ⟨11,0,some 0⟩) n2 c2] (dr ⟨cfg,AS,base,now,cost,AG,0,pl⟩ l1 l2))=(
 (Q (.int .i64 7) [some (.cells [(.int .i64 (List.getD (AB.cfg { cfg:=cfg,AS:=AS,base:=base,now:=now,cost:=cost,AG:=AG,state:=0,AK:=pl }) 0 0)),(.int .i64 (List.getD (AB.cfg { cfg:=cfg,AS:=AS,base:=base,now:=now,cost:=cost,AG:=AG,state:=0,AK:=pl }) 1 0)),(.int .i64 (List.getD (AB.cfg { cfg:=cfg,AS:=AS,base:=base,now:=now,cost:=cost,AG:=AG,state:=0,AK:=pl }) 2 0)),(.int .i64 (List.getD (AB.cfg { cfg:=cfg,AS:=AS,base:=base,now:=now,cost:=cost,AG:=AG,state:=0,AK:=pl }) 3 0)),(.int .i64 (List.getD (AB.cfg { cfg:=cfg,AS:=AS,base:=base,now:=now,cost:=cost,AG:=AG,state:=0,AK:=pl }) 4 0)),(.int .i64 (List.getD (AB.cfg { cfg:=cfg,AS:=AS,base:=base,now:=now,cost:=cost,AG:=AG,state:=0,AK:=pl }) 5 0)),(.int .i64 (List.getD (AB.cfg { cfg:=cfg,AS:=AS,base:=base,now:=now,cost:=cost,AG:=AG,state:=0,AK:=pl }) 6 0)),(.int .i64 (AB.AS { cfg:=cfg,AS:=AS,base:=base,now:=now,cost:=cost,AG:=AG,state:=0,AK:=pl })),(.pointer (some ⟨12,0,none⟩)),(.pointer (some ⟨13,0,none⟩)),(.int .i64 (AB.cost { cfg:=cfg,AS:=AS,base:=base,now:=now,cost:=cost,AG:=AG,state:=0,AK:=pl })),(.slice (some ⟨14,0,(some 0)⟩) (List.length (AB.AG { cfg:=cfg,AS:=AS,base:=base,now:=now,cost:=cost,AG:=AG,state:=0,AK:=pl })) 18446744073709551616),(.pointer none),(.int .i64 (AB.state { cfg:=cfg,AS:=AS,base:=base,now:=now,cost:=cost,AG:=AG,state:=0,AK:=pl })),(.bool (AB.AK { cfg:=cfg,AS:=AS,base:=base,now:=now,cost:=cost,AG:=AG,state:=0,AK:=pl }))] 0 false),some (.abs (AZ.pack (Pk.table (AB.base { cfg:=cfg,AS:=AS,base:=base,now:=now,cost:=cost,AG:=AG,state:=0,AK:=pl }))) false),some (.abs (AZ.pack (Pk.table (AB.now { cfg:=cfg,AS:=AS,base:=base,now:=now,cost:=cost,AG:=AG,state:=0,AK:=pl }))) false),some (.vec CW (AB.AG { cfg:=cfg,AS:=AS,base:=base,now:=now,cost:=cost,AG:=AG,state:=0,AK:=pl }) false)])):=by kernel_rfl
theorem Y4 (s:Int) (Q:Value→List (Option AJ)→Prop):Gv XM Vb E0 [] Q 600 (st E0 20 [.agg ⟨[.int .i64 s,.int .i64 100,.int .i64 2,.int .i64 200,.int .i64 8,.int .i64 16,.int .i64 1]⟩] J2)=(
 (((.int .i64 0):Value)=(.int .i64 0))∧(((.agg ⟨[(.int .i64 1),(.int .i64 1),(.int .i64 2)]⟩):Value)=(.agg ⟨[(.int .i64 1),(.int .i64 1),(.int .i64 2)]⟩))∧(((.int .i64 1):Value)=(.int .i64 1))∧(((.pointer (some ⟨23,6,none⟩)):Value)=(.pointer (some ⟨23,6,none⟩)))∧(((.agg ⟨[(.int .i64 s),(.int .i64 100),(.int .i64 2),(.int .i64 200),(.int .i64 8),(.int .i64 16),(.int .i64 1)]⟩):Value)=(.agg ⟨[(.int .i64 s),(.int .i64 100),(.int .i64 2),(.int .i64 200),(.int .i64 8),(.int .i64 16),(.int .i64 1)]⟩))∧(((.int .i64 200):Value)=(.int .i64 200))∧(((.pointer (some ⟨23,3,none⟩)):Value)=(.pointer (some ⟨23,3,none⟩)))∧(((.int .i64 100):Value)=(.int .i64 100))∧(((.pointer (some ⟨23,1,none⟩)):Value)=(.pointer (some ⟨23,1,none⟩)))∧(((.agg ⟨[(.int .i64 16),(.int .i64 0),(.int .i64 512)]⟩):Value)=(.agg ⟨[(.int .i64 16),(.int .i64 0),(.int .i64 512)]⟩))∧(((.int .i64 16):Value)=(.int .i64 16))∧(((.pointer (some ⟨23,5,none⟩)):Value)=(.pointer (some ⟨23,5,none⟩)))∧(((.agg ⟨[(.int .i64 8),(.int .i64 1),(.int .i64 32)]⟩):Value)=(.agg ⟨[(.int .i64 8),(.int .i64 1),(.int .i64 32)]⟩))∧(((.int .i64 8):Value)=(.int .i64 8))∧(((.pointer (some ⟨23,4,none⟩)):Value)=(.pointer (some ⟨23,4,none⟩)))∧(((.agg ⟨[(.int .i64 s),(.int .i64 4),(.int .i64 32)]⟩):Value)=(.agg ⟨[(.int .i64 s),(.int .i64 4),(.int .i64 32)]⟩))∧(((.int .i64 4):Value)=(.int .i64 4))∧(((.int .i64 2):Value)=(.int .i64 2))∧(((.pointer (some ⟨23,2,none⟩)):Value)=(.pointer (some ⟨23,2,none⟩)))∧(((.int .i64 s):Value)=(.int .i64 s))∧(((.pointer (some ⟨23,0,none⟩)):Value)=(.pointer (some ⟨23,0,none⟩)))∧(((.agg ⟨[(.int .i64 2),(.int .i64 2),(.int .i64 8)]⟩):Value)=(.agg ⟨[(.int .i64 2),(.int .i64 2),(.int .i64 8)]⟩))∧(((.int .i64 2):Value)=(.int .i64 2))∧(((.pointer (some ⟨23,2,none⟩)):Value)=(.pointer (some ⟨23,2,none⟩)))∧(((.agg ⟨[(.int .i64 100),(.int .i64 56),(.int .i64 8192)]⟩):Value)=(.agg ⟨[(.int .i64 100),(.int .i64 56),(.int .i64 8192)]⟩))∧(((.int .i64 56):Value)=(.int .i64 56))∧(((.int .i64 0):Value)=(.int .i64 0))∧(((.agg ⟨[(.int .i64 1),(.int .i64 1),(.int .i64 2)]⟩):Value)=(.agg ⟨[(.int .i64 1),(.int .i64 1),(.int .i64 2)]⟩))∧(((.int .i64 1):Value)=(.int .i64 1))∧(((.pointer (some ⟨23,6,none⟩)):Value)=(.pointer (some ⟨23,6,none⟩)))∧(((.int .i64 200):Value)=(.int .i64 200))∧(((.pointer (some ⟨23,3,none⟩)):Value)=(.pointer (some ⟨23,3,none⟩)))∧(((.int .i64 100):Value)=(.int .i64 100))∧(((.pointer (some ⟨23,1,none⟩)):Value)=(.pointer (some ⟨23,1,none⟩)))∧(((.agg ⟨[(.int .i64 16),(.int .i64 0),(.int .i64 512)]⟩):Value)=(.agg ⟨[(.int .i64 16),(.int .i64 0),(.int .i64 512)]⟩))∧(((.int .i64 16):Value)=(.int .i64 16))∧(((.pointer (some ⟨23,5,none⟩)):Value)=(.pointer (some ⟨23,5,none⟩)))∧(((.agg ⟨[(.int .i64 8),(.int .i64 1),(.int .i64 32)]⟩):Value)=(.agg ⟨[(.int .i64 8),(.int .i64 1),(.int .i64 32)]⟩))∧(((.int .i64 8):Value)=(.int .i64 8))∧(((.pointer (some ⟨23,4,none⟩)):Value)=(.pointer (some ⟨23,4,none⟩)))∧
 (((.agg ⟨[(.int .i64 s),(.int .i64 4),(.int .i64 32)]⟩):Value)=(.agg ⟨[(.int .i64 s),(.int .i64 4),(.int .i64 32)]⟩))∧(((.int .i64 4):Value)=(.int .i64 4))∧(((.int .i64 2):Value)=(.int .i64 2))∧(((.pointer (some ⟨23,2,none⟩)):Value)=(.pointer (some ⟨23,2,none⟩)))∧(((.int .i64 s):Value)=(.int .i64 s))∧(((.pointer (some ⟨23,0,none⟩)):Value)=(.pointer (some ⟨23,0,none⟩)))∧(((.agg ⟨[(.int .i64 2),(.int .i64 2),(.int .i64 8)]⟩):Value)=(.agg ⟨[(.int .i64 2),(.int .i64 2),(.int .i64 8)]⟩))∧(((.int .i64 2):Value)=(.int .i64 2))∧(((.pointer (some ⟨23,2,none⟩)):Value)=(.pointer (some ⟨23,2,none⟩)))∧(bif decide (s < 4)then(Q (.tuple ⟨[(.pointer none),(.int .i64 2)]⟩) [])else(bif decide (s > 32)then(Q (.tuple ⟨[(.pointer none),(.int .i64 2)]⟩) [])else(((.int .i64 (IntKind.wrap .i64 (IntKind.wrap .i64 (s - 2) - 2))):Value)=(.int .i64 (IntKind.wrap .i64 (IntKind.wrap .i64 (s - 2) - 2))))∧(((.int .i64 (IntKind.wrap .i64 (s - 2))):Value)=(.int .i64 (IntKind.wrap .i64 (s - 2))))∧(((.int .i64 2):Value)=(.int .i64 2))∧(((.pointer (some ⟨21,2,none⟩)):Value)=(.pointer (some ⟨21,2,none⟩)))∧(((.int .i64 s):Value)=(.int .i64 s))∧(((.pointer (some ⟨21,0,none⟩)):Value)=(.pointer (some ⟨21,0,none⟩)))∧(((.int .i64 (IntKind.wrap .i64 (Int.tdiv (IntKind.wrap .i64 (IntKind.wrap .i64 (IntKind.wrap .i64 (s - 2) - 2) * 84)) 2))):Value)=(.int .i64 (IntKind.wrap .i64 (Int.tdiv (IntKind.wrap .i64 (IntKind.wrap .i64 (IntKind.wrap .i64 (s - 2) - 2) * 84)) 2))))∧(((.agg ⟨[(.int .i64 s),(.int .i64 100),(.int .i64 2),(.int .i64 200),(.int .i64 8),(.int .i64 16),(.int .i64 1)]⟩):Value)=(.agg ⟨[(.int .i64 s),(.int .i64 100),(.int .i64 2),(.int .i64 200),(.int .i64 8),(.int .i64 16),(.int .i64 1)]⟩))∧(((.int .i64 (IntKind.wrap .i64 (Int.tdiv (IntKind.wrap .i64 (IntKind.wrap .i64 (IntKind.wrap .i64 (s - 2) - 2) * 84)) 2))):Value)=(.int .i64 (IntKind.wrap .i64 (Int.tdiv (IntKind.wrap .i64 (IntKind.wrap .i64 (IntKind.wrap .i64 (s - 2) - 2) * 84)) 2))))∧(((.agg ⟨[(.int .i64 s),(.int .i64 100),(.int .i64 2),(.int .i64 200),(.int .i64 8),(.int .i64 16),(.int .i64 1)]⟩):Value)=(.agg ⟨[(.int .i64 s),(.int .i64 100),(.int .i64 2),(.int .i64 200),(.int .i64 8),(.int .i64 16),(.int .i64 1)]⟩))∧(Q (.tuple ⟨[(.pointer (some ⟨37,0,none⟩)),(.int .i64 0)]⟩) [some (.cells [(.int .i64 s),(.int .i64 100),(.int .i64 2),(.int .i64 200),(.int .i64 8),(.int .i64 16),(.int .i64 1),(.int .i64 (IntKind.wrap .i64 (Int.tdiv (IntKind.wrap .i64 (IntKind.wrap .i64 (IntKind.wrap .i64 (s - 2) - 2) * 84)) 2))),(.pointer (some ⟨35,0,none⟩)),(.pointer (some ⟨36,0,none⟩)),(.int .i64 0),(.slice none 0 0),(.pointer none),(.int .i64 0),(.bool false)] 0 false)])))):=by kernel_rfl
end Go.AD

set_option maxRecDepth 1000000
namespace Go.AD
open Go.Proofs
theorem AP.hole {base:Env} {W0 W:World} {μ:Ah} {H:AA} (h:AP base W0 μ H W) (o:AJ):AP base W0 μ (H.alloc o) W:=by
 have hg:∀b x,(H.alloc o).get b=some x→∀T,μ b=some T→H.get b=some x:=fun b x hb T hT=>by
  rw[AA.AR]at hb
  split at hb
  ·rename_i e;rw[e,(h.fresh H.next (Nat.le_refl _)).2]at hT;cases hT
  ·exact hb
 refine⟨fun b x hb T hT=>h.obj b x (hg b x hb T hT) T hT,fun b x hb hr T hT=>h.own b x (hg b x hb T hT) hr T hT,fun b1 b2 o1 o2 h1 h2 T1 T2 t1 t2=>h.inj b1 b2 o1 o2 (hg _ _ h1 _ t1) (hg _ _ h2 _ t2) T1 T2 t1 t2,
  fun b hb=>?_,h.bound,h.size,h.below,h.out,h.os,?_,h.le,h.grow⟩
 ·have hb:H.next+1≤b:=hb
  obtain⟨f1,f2⟩:=h.fresh b (by omega)
  exact⟨by rw[AA.AR,if_neg (by omega)];exact f1,f2⟩
 ·obtain⟨φ,q⟩:=h.abs
  exact⟨φ,fun b a ro T hb hT=>q.rep b a ro T (hg _ _ hb _ hT) hT,fun b a ro T hb hT b2 o2 T2 hb2 hT2=>q.Be b a ro T (hg _ _ hb _ hT) hT b2 o2 T2 (hg _ _ hb2 _ hT2) hT2⟩
theorem A6.ZS {X:Ctx} {N:Nat} {Φ:Ay→Prop} {fn:FuncId} {t:Tr Value} {n:Nat} {todo:List CH} {ds:List Deferred} {r:Bool} {kd:CallKind} {rd:Option Nat} {cs:List AU} {H:AA} (j:Nat) {a o b:Nat} {q:Option Nat} {s:Pk} {ro:Bool}
 (hd:Ck todo=true) (hj:look t j= .pointer (some ⟨a,o,q⟩)) (hreach:b∈Ax H 0 200 [a] []) (hb:H.get b=some (.abs (.pack s) ro))
 (h:∀objs,Dl s objs→∃H',JD H b ro objs H' (D7 s)∧A6 X N ⟨⟨fn,t,n,todo,ds,r,kd,rd⟩,cs,H'⟩ Φ):A6 X N ⟨⟨fn,t,n,todo,ds,r,kd,rd⟩,cs,H⟩ Φ:=by
 intro base W0 hb0 hok hplan cs0 μ fr cs' W hm
 obtain⟨hH,hlaid,g,gs,hfr,hcs,hnd⟩:=hm
 cases hfr with
 | plain fn t n tm todo todo' ds ds' r kd rd rd' ht hi hd hr=>
  have hj2:=ht.2 j
  rw[hj]at hj2
  have hr2:=IK hH (N:=0) 200 [a] [] (fun x hx=>by
   rw[List.mem_singleton]at hx;subst hx
   exact N2 hj2) ⟨List.nodup_nil,fun b hb=>by cases hb⟩
  obtain⟨T,hT⟩:=(hr2.2 b hreach).2
  obtain⟨objs,hr4,ho⟩:=hH.opened hb hT
  obtain⟨H',hO,hrun⟩:=h objs hr4
  obtain⟨μ',hH',hE⟩:=ho H' hO
  exact hrun base W0 hb0 hok hplan cs0 μ' _ cs' W ⟨hH',hlaid.mono hE.le,[],gs,.plain fn t n tm todo todo' ds ds' _ kd rd rd' (ht.mono hE.le) (hi.mono hE.le) (hd.mono hE.le) (hr.mono hE.le),hcs.mono (hE.keeps _),hnd⟩
 | drawn fn t n tm ops Bh idx D G k k' ds ds' kd rd rd' hD hk2 hd2 hr2=>cases hd
structure fO (m:AB):Prop where
 st:m.state=0
noncomputable def ZB (args:List Value) (objs:List AJ):GT:=
 match args,objs with
 | [.pointer (some ⟨9,0,none⟩),.slice (some ⟨10,0,some 0⟩) _ _,.slice (some ⟨11,0,some 0⟩) _ _],[.abs (.pack (.model m)) _,.vec [.str] _ _,.vec [.str] _ _]=>
  .ask (fO m) (.ret ⟨.int .i64 7,[some (.abs (.pack (.model m)) false)],[]⟩)
 | _,_=> .fail
noncomputable def SI (m:AB) (l1 l2:List (EK.C kS)):AA:=BW ⟨.leaf,9⟩ [.abs (.pack (.model m)) false,.vec kS l1 true,.vec kS l2 true]
theorem YK (m:AB) (l1 l2:List (EK.C kS)):∀x,12≤x→(SI m l1 l2).get x=none:=by
 intro x hx
 unfold SI
 rw[E6]
 show(if x < 9 then _ else _)=_
 rw[if_neg (by omega),List.getElem?_eq_none (by simp;omega)]
 rfl
theorem Yb (m:AB) (l1 l2:List (EK.C kS)):EI ((SI m l1 l2).put 9 (.cells (BV m 12 13 (.slice (some ⟨14,0,some 0⟩) m.AG.length AF)) 0 false)) [.abs (.pack (.table m.base)) false,.abs (.pack (.table m.now)) false,.vec CW m.AG false]=dr m l1 l2:=by kernel_rfl
theorem Zq:Da Tryz.prog AL BN (A3 AL 9 [true] ZB):=by
 refine Bs allM (by kernel_rfl) (n:=68) (by kernel_rfl) (by kernel_rfl) fun argsc objs x hx hro=>?_
 unfold ZB at hx
 split at hx
 ·rename_i n1 c1 n2 c2 m ro l1 r1 l2 r2
  simp only[GT.run]at hx
  split at hx
  ·rename_i hst
   obtain⟨hst⟩:=hst
   cases hx
   have hr0:ro=false:=hro 0 _ rfl rfl
   subst hr0
   refine⟨by simp,?_⟩
   show A4 XM 12 (fun b=>9≤b∧b < 12) BN _ (st BN 68 [p9,.slice (some ⟨10,0,some 0⟩) n1 c1,.slice (some ⟨11,0,some 0⟩) n2 c2] (SI m l1 l2))
   refine A4.shut (Q:=fun v H=>v= .int .i64 7∧HU H m) ?_ ?_
   ·refine A4.opened (b:=9) (s:= .model m) (ro:=false) ⟨by omega,by omega⟩ (by show(SI m l1 l2).get 9=_;kernel_rfl) (fun ops p k h=>by cases h) fun objs hr=>?_
    cases hr with
    | model=>
     refine⟨_,KI (H:=SI m l1 l2) (b:=9) (ro:=false) (o1:= .cells (BV m 12 13 (.slice (some ⟨14,0,some 0⟩) m.AG.length AF)) 0 false) (ps1:=[.abs (.pack (.table m.base)) false,.abs (.pack (.table m.now)) false,.vec CW m.AG false]) (show 9 < 12 by decide) (YK m l1 l2) rfl rfl (fun i p hp=>?_),?_⟩
     ·cases i with
      | zero=>cases hp;exact⟨_,rfl,rfl⟩
      | succ i=>cases i with
       | zero=>cases hp;exact⟨_,rfl,rfl⟩
       | succ i=>cases i with
        | zero=>cases hp;exact⟨_,rfl,rfl⟩
        | succ i=>cases i<;>cases hp
     ·show A4 XM 12 (fun b=>9≤b∧b < 12) BN (fun v H=>v= .int .i64 7∧HU H m) (st BN 68 [p9,.slice (some ⟨10,0,some 0⟩) n1 c1,.slice (some ⟨11,0,some 0⟩) n2 c2] (EI ((SI m l1 l2).put 9 (.cells (BV m 12 13 (.slice (some ⟨14,0,some 0⟩) m.AG.length AF)) 0 false)) [.abs (.pack (.table m.base)) false,.abs (.pack (.table m.now)) false,.vec CW m.AG false]))
      rw[Yb]
      obtain⟨cfg,AS,base,now,cost,AG,state,pl⟩:=m
      simp only at hst
      subst hst
      refine A4.mono (As.Ko (B8.Gq (B6 Hs (ids:=[9,12,13,14]) (Q:=fun v os=>v= .int .i64 7∧os=[some (.cells (BV ⟨cfg,AS,base,now,cost,AG,0,pl⟩ 12 13 (.slice (some ⟨14,0,some 0⟩) AG.length AF)) 0 false),some (DP base),some (DP now),some (.vec CW AG false)]) 600 _ ?_))) ?_
      ·rw[cg]
       exact⟨rfl,by unfold AF;rfl⟩
      ·rintro v H ⟨rfl,h⟩
       have h:[H.get 9,H.get 12,H.get 13,H.get 14]=_:=h
       simp only[List.cons.injEq,and_true]at h
       exact⟨rfl,12,13,14,by decide,by decide,by decide,by decide,by decide,by decide,h.2.1,h.2.2.1,h.1,h.2.2.2⟩
   ·rintro v H ⟨rfl,hT⟩
    obtain⟨H2,k1,k2⟩:=S5 (D:=fun b=>9≤b∧b < 12) (v:= .int .i64 7) ⟨Nat.le_refl 9,by decide⟩ hT
    refine⟨H2,k1,[],List.nodup_nil,fun b hb=>(by cases hb),rfl,rfl,(fun j b o hj=>(by cases hj)),fun j o hj hm ho=>?_⟩
    cases j with
    | zero=>cases ho;exact⟨_,rfl,k2⟩
    | succ j=>cases ho
  ·cases hx
 ·cases hx
structure OG (s c1 c2 c3 c4 c5 c6:Int):Prop where
 lo:32 < s
 hi:s < 1000000
 e1:c1=100
 e2:c2=2
 e3:c3=200
 e4:c4=8
 e5:c5=16
 e6:c6=1
noncomputable def aw:Value:= .tuple ⟨[.pointer none,.int .i64 2]⟩
noncomputable def Q0:Co where
 ok:=fun args=>match args with
  | [.agg ⟨[.int .i64 s,.int .i64 c1,.int .i64 c2,.int .i64 c3,.int .i64 c4,.int .i64 c5,.int .i64 c6]⟩]=>OG s c1 c2 c3 c4 c5 c6
  | _=>False
 v:=fun _=>aw
noncomputable def YI:FJ:=fun args H K=>match args with
 | [.agg ⟨[.int .i64 s,.int .i64 c1,.int .i64 c2,.int .i64 c3,.int .i64 c4,.int .i64 c5,.int .i64 c6]⟩]=>OG s c1 c2 c3 c4 c5 c6∧K (.tuple ⟨[.pointer none,.int .i64 2]⟩) H
 | _=>False
theorem XX {X:Ctx} {f:FuncId} (hX:X.FL f=some Q0.F) (args:List Value) (H:AA) (K:Value→AA→Prop) (h:YI args H K):∃v H',Bp X f args .normal H=some (v,H')∧K v H':=by
 unfold YI at h
 split at h
 ·exact Co.Vf (q:=Q0) hX _ H K ⟨h.1,h.2⟩
 ·exact h.elim
theorem XU:Da Tryz.prog AL E0 Q0.F:=by
 refine HA (n:=20) (by kernel_rfl) fun args h=>?_
 unfold Q0 at h
 simp only at h
 split at h
 ·rename_i s c1 c2 c3 c4 c5 c6
  obtain⟨lo,hi,rfl,rfl,rfl,rfl,rfl,rfl⟩:=h
  refine⟨rfl,by simp,rfl,_,allM,?_⟩
  refine(B6 Hs (ids:=[]) (Q:=fun v _=>v=aw) 600 _ ?_).Gq
  rw[Y4]
  repeat' first
   | refine And.intro rfl ?_
   | refine AT (fun h=>?_) (fun h=>?_)
   | rfl
  all_goals omega
 ·exact h.elim
structure D2 (m:AB) (k a b:Int) (key val:ByteArray) (e:Int) (sv:ByteArray):Prop where
 ok:GN m k a b key val e sv
 same:DH m k a b key val e sv=m
noncomputable def Zw (args:List Value) (objs:List AJ):GT:=
 match args,objs with
 | [.pointer (some ⟨9,0,none⟩),.agg ⟨[.int .i64 k,.int .i64 a,.int .i64 b,.string key,.string val]⟩,.agg ⟨[.int .i64 e,.string sv]⟩],[.abs (.pack (.model m)) _]=>
  .ask (D2 m k a b key val e sv) (.ret ⟨.int .i64 (Dj m k a b key val e sv),[some (.abs (.pack (.model m)) false)],[]⟩)
 | _,_=> .fail
theorem Yw:Da Tryz.prog AL BC (A3 AL 9 [true] Zw):=by
 refine Da.sub Sg (Ll fun args objs x hx=>?_)
 unfold Zw at hx
 split at hx
 ·rename_i k a b key val e sv m ro
  simp only[GT.run]at hx
  split at hx
  ·rename_i hok
   cases hx
   show(GT.ask (GN m k a b key val e sv) _).run=_
   simp only[GT.run]
   rw[if_pos hok.ok,hok.same]
  ·cases hx
 ·cases hx
end Go.AD

set_option maxRecDepth 1000000
namespace Go.AD
open Go.Proofs
noncomputable def vi (n:Nat):Value:= .int .i64 (.ofNat n)
noncomputable def vy (n:Nat):Value:= .int .u8 (.ofNat n)
noncomputable def vT:Value:= .bool true
noncomputable def vF:Value:= .bool false
noncomputable def vN:Value:= .slice none 0 0
noncomputable def vs (b n c:Nat):Value:=sl b 0 n (18446744073709551616+c)
noncomputable def vb (l:List Nat):Value:= .string (dX l)
noncomputable def pq (f:FuncId) (l:List Nat):Code:=Bb Tryz.prog f l
end Go.AD
