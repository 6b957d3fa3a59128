/-
  Part of the proof: the machine that runs a program by fixed orders, and that each of its runs is a run of the model; or a run of it in parts. No conditions.
-/
import Derived.Shelf.Small.Strs
import Derived.Test.YtfnfimeefeigdaaGreatDoorChecked
import GoSem.Step
import Derived.Calls
import Derived.Laws.Sem
import Derived.Laws.World
import Derived.KernelRfl
import Derived.Laws.Cells
import Derived.Laws.IdiomCopy
import Derived.Laws.BytesString
import Derived.Lib.FrozenHead
import Derived.Lib.UnsafeStr
import Derived.Laws.Tables
import Derived.Laws.Append
import Derived.Orders
noncomputable section
namespace Go.Proofs
open Go.Shelf
def Tryz.Ub:Go.Shelf.Ren:=⟨fun | 137=>226 | 217=>234 | 266=>236 | n=>n,fun | 9=>9 | 5=>5 | 3=>3 | n=>n,fun | n=>n⟩
theorem Tryz.jq:Go.Proofs.Lays.n137 Tryz.prog Tryz.Ub:={
 mixed:=by kernel_rfl
 f137:=Tryz.func226.trans (congrArg some (by kernel_rfl))
 f217:=Tryz.func234.trans (congrArg some (by kernel_rfl))
 f266:=Tryz.func236.trans (congrArg some (by kernel_rfl))
 t3:=Tryz.underlying3
 a3:=Tryz.isAgg3
 z3:=Tryz.sizeOf3
 v3:=Tryz.zeroValue3
 t5:=Tryz.underlying5
 a5:=Tryz.isAgg5
 z5:=Tryz.sizeOf5
 v5:=Tryz.zeroValue5
 t9:=Tryz.underlying9
 a9:=Tryz.isAgg9
 z9:=Tryz.sizeOf9
 v9:=Tryz.zeroValue9 }
end Go.Proofs
namespace Go.AD
abbrev AN:Nat:=3
abbrev Ac:Nat:=8
abbrev Dm:Nat:=9
abbrev B0:Nat:=10
abbrev Al:Nat:=11
abbrev AO:Nat:=12
abbrev FL:Nat:=13
abbrev HU:Nat:=14
abbrev HR:Nat:=15
abbrev HI:Nat:=16
abbrev Gp:Nat:=20
abbrev F5:Nat:=21
abbrev CS:Nat:=25
abbrev Di:Nat:=30
abbrev CW:Nat:=33
abbrev EL:Nat:=34
abbrev bH:Nat:=35
abbrev E0:Nat:=36
abbrev Ay:Nat:=37
abbrev DL:Nat:=38
abbrev CC:Nat:=39
abbrev DQ:Nat:=40
abbrev HX:Nat:=41
abbrev Cb:Nat:=42
abbrev BZ:Nat:=43
abbrev CI:Nat:=46
abbrev Aq:Nat:=48
abbrev LQ:Nat:=49
abbrev Cg:Nat:=51
abbrev JD:Nat:=54
abbrev E7:Nat:=55
abbrev Dj:Nat:=63
abbrev Cy:Nat:=64
abbrev By:Nat:=66
abbrev AE:Nat:=68
abbrev Bd:Nat:=69
abbrev C9:Nat:=71
abbrev F3:Nat:=72
abbrev E1:Nat:=82
abbrev HM:Nat:=83
abbrev EG:Nat:=84
abbrev AG:Nat:=86
abbrev J0:Nat:=88
abbrev DU:Nat:=90
abbrev CF:Nat:=91
abbrev Fp:Nat:=93
abbrev DT:Nat:=94
abbrev JJ:Nat:=97
abbrev CK:Nat:=107
abbrev Dk:Nat:=108
abbrev EP:Nat:=109
abbrev EF:Nat:=111
abbrev Hq:Nat:=117
abbrev FI:Nat:=118
abbrev D3:Nat:=124
abbrev Br:Nat:=127
abbrev DK:Nat:=130
abbrev AK:Nat:=132
abbrev B5:Nat:=133
abbrev Es:Nat:=134
abbrev Ar:Nat:=135
abbrev AT:Nat:=136
abbrev B8:Nat:=137
abbrev Da:Nat:=139
abbrev Dt:Nat:=140
abbrev A7:Nat:=142
abbrev A3:Nat:=145
abbrev BC:Nat:=146
abbrev D0:Nat:=150
abbrev DJ:Nat:=155
abbrev AF:Nat:=157
abbrev Fq:Nat:=158
abbrev Et:Nat:=159
abbrev Bs:Nat:=164
abbrev BY:Nat:=165
abbrev BM:Nat:=166
abbrev EX:Nat:=168
abbrev An:Nat:=176
abbrev Eo:Nat:=177
abbrev Be:Nat:=182
abbrev A2:Nat:=183
abbrev Dy:Nat:=188
abbrev Dc:Nat:=189
abbrev N4:Nat:=192
abbrev Hp:Nat:=193
abbrev BW:Nat:=195
abbrev D1:Nat:=197
abbrev FR:Nat:=203
abbrev Oj:Nat:=204
abbrev Az:Nat:=207
abbrev DV:Nat:=214
abbrev B2:Nat:=215
abbrev A4:Nat:=221
abbrev DD:Nat:=222
abbrev Dz:Nat:=226
abbrev AQ:Nat:=230
abbrev Bf:Nat:=231
inductive Tr (α:Type) where
 | leaf:Tr α
 | node (l:Tr α) (v:Option α) (r:Tr α):Tr α
inductive Hj where
 | e:Hj
 | z (p:Hj):Hj
 | o (p:Hj):Hj
 deriving DecidableEq
def Hj.tu (f:Nat):Nat->Hj:=
 Nat.rec (motive:=fun _=>Nat->Hj) (fun _=> .e)
  (fun _ ih n=>Nat.casesOn (motive:=fun _=>Hj) n .e fun n=>
   bif Nat.beq (Nat.mod n 2) 1 then .o (ih (Nat.div n 2))else .z (ih (Nat.div n 2))) f
def Hj.of (n:Nat):Hj:=Hj.tu n n
theorem Hj.QW (f:Nat):Hj.tu f 0= .e:=by cases f<;>rfl
theorem Hj.Ka (f n:Nat):Hj.tu (f+1) (n+1)=bif Nat.beq (n % 2) 1 then .o (Hj.tu f (n / 2))else .z (Hj.tu f (n / 2)):=rfl
theorem Hj.nG:∀(f g n m:Nat),n<=f->m<=g->Hj.tu f n=Hj.tu g m->n=m:=by
 intro f;induction f with
 | zero=>
  intro g n m hn hm h;obtain rfl:n=0:=by omega
  cases m with
  | zero=>rfl
  | succ m=>
   cases g with
   | zero=>omega
   | succ g=>
    rw[Hj.QW,Hj.Ka]at h;cases hb:Nat.beq (m % 2) 1<;>rw[hb]at h<;>cases h
 | succ f ih=>
  intro g n m hn hm h;cases n with
  | zero=>
   cases m with
   | zero=>rfl
   | succ m=>
    cases g with
    | zero=>omega
    | succ g=>
     rw[Hj.QW,Hj.Ka]at h;cases hb:Nat.beq (m % 2) 1<;>rw[hb]at h<;>cases h
  | succ n=>
   cases m with
   | zero=>
    rw[Hj.QW,Hj.Ka]at h;cases hb:Nat.beq (n % 2) 1<;>rw[hb]at h<;>cases h
   | succ m=>
    cases g with
    | zero=>omega
    | succ g=>
     rw[Hj.Ka,Hj.Ka]at h;cases hb:Nat.beq (n % 2) 1<;>cases hc:Nat.beq (m % 2) 1<;>rw[hb,hc]at h
     ·have h1:n % 2≠1:=by intro e;rw[e]at hb;cases hb
      have h2:m % 2≠1:=by intro e;rw[e]at hc;cases hc
      have:=ih g (n / 2) (m / 2) (by omega) (by omega) (by injection h);omega
     ·cases h
     ·cases h
     ·have h1:n % 2=1:=Nat.eq_of_beq_eq_true hb;have h2:m % 2=1:=Nat.eq_of_beq_eq_true hc;have:=ih g (n / 2) (m / 2) (by omega) (by omega) (by injection h);omega
theorem Hj.th {n m:Nat} (h:Hj.of n=Hj.of m):n=m:=Hj.nG n m n m (Nat.le_refl _) (Nat.le_refl _) h
namespace Tr
variable {α:Type}
def LV (t:Tr α):Hj->Option α:=
 Tr.rec (motive:=fun _=>Hj->Option α) (fun _=>none)
  (fun _ v _ ihl ihr p=>Hj.casesOn (motive:=fun _=>Option α) p v (fun p=>ihl p) (fun p=>ihr p)) t
def Ga (x:Option α) (p:Hj):Tr α->Tr α:=
 Hj.rec (motive:=fun _=>Tr α->Tr α)
  (fun t=>Tr.casesOn (motive:=fun _=>Tr α) t (.node .leaf x .leaf) (fun l _ r=> .node l x r))
  (fun _ ih t=>Tr.casesOn (motive:=fun _=>Tr α) t (.node (ih .leaf) none .leaf) (fun l v r=> .node (ih l) v r))
  (fun _ ih t=>Tr.casesOn (motive:=fun _=>Tr α) t (.node .leaf none (ih .leaf)) (fun l v r=> .node l v (ih r)))
  p
theorem bn (x:Option α):∀(p q:Hj) (t:Tr α),(t.Ga x p).LV q=if q=p then x else t.LV q:=by
 intro p;induction p with
 | e=>intro q t;cases t<;>cases q<;>simp[Ga,LV]
 | z p ih=>
  intro q t;cases t with
  | leaf=>cases q with
   | e=>simp[Ga,LV]
   | z q=>have:=ih q .leaf;simpa [Ga,LV] using this
   | o q=>simp[Ga,LV]
  | node l v r=>cases q with
   | e=>simp[Ga,LV]
   | z q=>have:=ih q l;simpa [Ga,LV] using this
   | o q=>simp[Ga,LV]
 | o p ih=>
  intro q t;cases t with
  | leaf=>cases q with
   | e=>simp[Ga,LV]
   | o q=>have:=ih q .leaf;simpa [Ga,LV] using this
   | z q=>simp[Ga,LV]
  | node l v r=>cases q with
   | e=>simp[Ga,LV]
   | o q=>have:=ih q r;simpa [Ga,LV] using this
   | z q=>simp[Ga,LV]
def get (t:Tr α) (n:Nat):Option α:=t.LV (Hj.of n)
def put (t:Tr α) (n:Nat) (x:Option α):Tr α:=t.Ga x (Hj.of n)
theorem RI (n:Nat):(Tr.leaf:Tr α).get n=none:=rfl
theorem AU (t:Tr α) (n m:Nat) (x:Option α):(t.put n x).get m=if m=n then x else t.get m:=by
 unfold get put;rw[bn]
 by_cases h:m=n
 ·subst h;simp
 ·rw[if_neg (fun e=>h (Hj.th e)),if_neg h]
theorem Tm (t:Tr α) (n:Nat) (x:Option α):(t.put n x).get n=x:=by rw[AU,if_pos rfl]
theorem X9 (t:Tr α) {n m:Nat} (x:Option α) (h:m≠n):(t.put n x).get m=t.get m:=by rw[AU,if_neg h]
end Tr
abbrev FV:=List (FuncId × List Nat)
abbrev Co:=List (Nat × List Value)
abbrev C1:=Option Value
abbrev BR:=Array Value
abbrev AL:=List Value
abbrev As:=ByteArray
abbrev AW:=List Nat
abbrev Ad:=List Int
theorem BE:type_of% @Nat.le_of_ble_eq_true:=@Nat.le_of_ble_eq_true
theorem C5:type_of% @Option.some.injEq:=@Option.some.injEq
theorem C8:type_of% @cond_true:=@cond_true
theorem DN:type_of% @Nat.eq_of_beq_eq_true:=@Nat.eq_of_beq_eq_true
theorem Dg:type_of% @Bool.and_eq_true:=@Bool.and_eq_true
theorem EB:type_of% @cond_false:=@cond_false
theorem Ez:type_of% @Nat.ble_eq_true_of_le:=@Nat.ble_eq_true_of_le
theorem GO:type_of% @Nat.le_refl:=@Nat.le_refl
theorem GS:type_of% @Option.map_eq_some_iff:=@Option.map_eq_some_iff
theorem JT:type_of% @if_neg:=@if_neg
theorem Jj:type_of% @List.getElem?_eq_getElem:=@List.getElem?_eq_getElem
theorem KE:type_of% @decide_eq_true:=@decide_eq_true
theorem Kd:type_of% @List.getD_eq_getElem?_getD:=@List.getD_eq_getElem?_getD
theorem MB:type_of% @if_pos:=@if_pos
theorem MC:type_of% @decide_eq_false:=@decide_eq_false
theorem MG:type_of% @Int.toNat_natCast:=@Int.toNat_natCast
theorem Nh:type_of% @List.cons.injEq:=@List.cons.injEq
theorem Nw:type_of% @List.take_of_length_le:=@List.take_of_length_le
theorem Pq:type_of% @List.length_append:=@List.length_append
theorem Q4:type_of% @List.mem_singleton:=@List.mem_singleton
theorem Q6:type_of% @List.getElem?_set:=@List.getElem?_set
theorem RP:type_of% @Nat.zero_add:=@Nat.zero_add
theorem Rg:type_of% @List.length_take:=@List.length_take
theorem SB:type_of% @List.length_set:=@List.length_set
theorem Si:type_of% @Prod.mk.injEq:=@Prod.mk.injEq
theorem Sm:type_of% @List.map_cons:=@List.map_cons
theorem Ss:type_of% @List.eq_nil_of_length_eq_zero:=@List.eq_nil_of_length_eq_zero
theorem Sy:type_of% @List.getElem?_map:=@List.getElem?_map
theorem TL:type_of% @decide_eq_true_eq:=@decide_eq_true_eq
theorem Tx:type_of% @List.length_drop:=@List.length_drop
theorem T6:type_of% @List.getElem?_eq_none:=@List.getElem?_eq_none
theorem UP:type_of% @Array.getD_eq_getD_getElem?:=@Array.getD_eq_getD_getElem?
theorem Ul:type_of% @List.mem_cons:=@List.mem_cons
theorem U1:type_of% @Nat.lt_or_ge:=@Nat.lt_or_ge
theorem VC:type_of% @Option.bind_some:=@Option.bind_some
theorem VX:type_of% @Nat.beq_refl:=@Nat.beq_refl
theorem Wt:type_of% @Array.getElem?_toList:=@Array.getElem?_toList
theorem YC:type_of% @List.length_replicate:=@List.length_replicate
theorem Zq:type_of% @List.take_append_of_le_length:=@List.take_append_of_le_length
theorem aU:type_of% @List.append_assoc:=@List.append_assoc
theorem ax:type_of% @Array.length_toList:=@Array.length_toList
theorem ay:type_of% @Nat.zero_le:=@Nat.zero_le
theorem bG:type_of% @List.not_mem_nil:=@List.not_mem_nil
theorem bT:type_of% @List.length_cons:=@List.length_cons
theorem bl:type_of% @List.drop_zero:=@List.drop_zero
theorem cA:type_of% @List.mem_of_getElem?:=@List.mem_of_getElem?
theorem dG:type_of% @List.nodup_nil:=@List.nodup_nil
theorem dH:type_of% @Option.map_some:=@Option.map_some
theorem di:type_of% @Nat.mul_le_mul_right:=@Nat.mul_le_mul_right
theorem dm:type_of% @Array.getElem?_eq_getElem:=@Array.getElem?_eq_getElem
theorem gi:type_of% @Ne.symm:=@Ne.symm
theorem ic:type_of% @List.nil_append:=@List.nil_append
theorem iy:type_of% @and_true:=@and_true
theorem jV:type_of% @Nat.add_assoc:=@Nat.add_assoc
theorem jY:type_of% @List.getElem?_append_left:=@List.getElem?_append_left
theorem jc:type_of% @Int.eq_ofNat_of_zero_le:=@Int.eq_ofNat_of_zero_le
theorem kV:type_of% @decide_eq_false_iff_not:=@decide_eq_false_iff_not
theorem lB:type_of% @List.getElem?_append_right:=@List.getElem?_append_right
theorem lV:type_of% @Array.getElem?_setIfInBounds:=@Array.getElem?_setIfInBounds
theorem lW:type_of% @List.nodup_cons:=@List.nodup_cons
theorem lf:type_of% @List.all_cons:=@List.all_cons
theorem mM:type_of% @List.getElem?_take:=@List.getElem?_take
theorem mX:type_of% @List.getElem?_drop:=@List.getElem?_drop
theorem me:type_of% @Nat.sub_self:=@Nat.sub_self
theorem nB:type_of% @List.mem_cons_self:=@List.mem_cons_self
theorem nI:type_of% @Nat.lt_of_lt_of_le:=@Nat.lt_of_lt_of_le
theorem oA:type_of% @List.getElem?_cons_succ:=@List.getElem?_cons_succ
theorem oB:type_of% @List.length_map:=@List.length_map
theorem oH:type_of% @beq_eq_false_iff_ne:=@beq_eq_false_iff_ne
theorem oo:type_of% @List.mem_cons_of_mem:=@List.mem_cons_of_mem
theorem o6:type_of% @List.map_nil:=@List.map_nil
theorem pJ:type_of% @Array.toList_append:=@Array.toList_append
theorem qs:type_of% @List.take_length:=@List.take_length
theorem rH:type_of% @Nat.min_eq_left:=@Nat.min_eq_left
theorem rM:type_of% @of_decide_eq_true:=@of_decide_eq_true
theorem rU:type_of% @Option.getD_some:=@Option.getD_some
theorem re:type_of% @Array.toList_map:=@Array.toList_map
theorem sK:type_of% @List.cons_append:=@List.cons_append
theorem sd:type_of% @Bool.not_eq_true':=@Bool.not_eq_true'
theorem sx:type_of% @Nat.add_mul:=@Nat.add_mul
theorem tE:type_of% @List.getElem?_cons_zero:=@List.getElem?_cons_zero
theorem tV:type_of% @List.take_take:=@List.take_take
theorem uB:type_of% @Nat.lt_irrefl:=@Nat.lt_irrefl
theorem uP:type_of% @List.drop_eq_getElem_cons:=@List.drop_eq_getElem_cons
theorem ud:type_of% @Array.getElem?_eq_none:=@Array.getElem?_eq_none
theorem uf:type_of% @Int.natCast_nonneg:=@Int.natCast_nonneg
theorem ur:type_of% @List.drop_of_length_le:=@List.drop_of_length_le
theorem vK:type_of% @or_false:=@or_false
theorem vZ:type_of% @Bool.or_eq_true:=@Bool.or_eq_true
theorem vf:type_of% @List.append_nil:=@List.append_nil
theorem wL:type_of% @Bool.and_eq_false_iff:=@Bool.and_eq_false_iff
theorem wQ:type_of% @Nat.le_trans:=@Nat.le_trans
theorem xa:type_of% @List.getElem?_replicate:=@List.getElem?_replicate
theorem xm:type_of% @Option.bind_eq_some_iff:=@Option.bind_eq_some_iff
theorem xp:type_of% @Bool.or_eq_false_iff:=@Bool.or_eq_false_iff
theorem yO:type_of% @List.mem_of_mem_drop:=@List.mem_of_mem_drop
theorem yV:type_of% @Bool.and_self:=@Bool.and_self
theorem yW:type_of% @Bool.false_or:=@Bool.false_or
theorem yi:type_of% @Array.toList_inj:=@Array.toList_inj
theorem yk:type_of% @List.mem_or_eq_of_mem_set:=@List.mem_or_eq_of_mem_set
theorem yl:type_of% @List.drop_append_of_le_length:=@List.drop_append_of_le_length
theorem yp:type_of% @List.set_getElem_self:=@List.set_getElem_self
theorem AAM:type_of% @Bool.true_and:=@Bool.true_and
theorem AAN:type_of% @Nat.add_zero:=@Nat.add_zero
theorem AAO:type_of% @Int.tmod_eq_emod_of_nonneg:=@Int.tmod_eq_emod_of_nonneg
theorem AAP:type_of% @List.Sublist.refl:=@List.Sublist.refl
theorem AAQ:type_of% @List.map_congr_left:=@List.map_congr_left
theorem AAR:type_of% @if_true:=@if_true
theorem AAS:type_of% @beq_self_eq_true:=@beq_self_eq_true
theorem AAT:type_of% @Nat.succ_mul:=@Nat.succ_mul
theorem AAU:type_of% @List.getElem_of_mem:=@List.getElem_of_mem
theorem AAV:type_of% @and_self:=@and_self
theorem AAW:type_of% @List.all_eq_true:=@List.all_eq_true
theorem AAX:type_of% @List.getElem_mem:=@List.getElem_mem
theorem AAY:type_of% @Array.toList_setIfInBounds:=@Array.toList_setIfInBounds
theorem AAZ:type_of% @Iff.rfl:=@Iff.rfl
theorem AAa:type_of% @List.mem_of_mem_take:=@List.mem_of_mem_take
theorem AAb:type_of% @List.set_set:=@List.set_set
theorem AAc:type_of% @Nat.pow_succ:=@Nat.pow_succ
theorem AAd:type_of% @Nat.mod_lt:=@Nat.mod_lt
theorem AAe:type_of% @Option.bind_eq_bind:=@Option.bind_eq_bind
theorem AAf:type_of% @List.getElem?_range:=@List.getElem?_range
theorem AAg:type_of% @Array.getElem?_push:=@Array.getElem?_push
theorem AAh:type_of% @List.drop_drop:=@List.drop_drop
theorem AAi:type_of% @List.mapM_cons:=@List.mapM_cons
theorem AAk:type_of% @List.take_zero:=@List.take_zero
theorem AAl:type_of% @Nat.add_sub_cancel_left:=@Nat.add_sub_cancel_left
theorem AAm:type_of% @Int.le_refl:=@Int.le_refl
theorem AAo:type_of% @Nat.mul_one:=@Nat.mul_one
theorem AAp:type_of% @Option.some.inj:=@Option.some.inj
theorem AAq:type_of% @not_or:=@not_or
theorem AAr:type_of% @List.singleton_append:=@List.singleton_append
theorem AAs:type_of% @List.ext_getElem?:=@List.ext_getElem?
theorem AAt:type_of% @List.size_toArray:=@List.size_toArray
theorem AAu:type_of% @List.drop_take:=@List.drop_take
theorem AAv:type_of% @Nat.min_def:=@Nat.min_def
theorem AAw:type_of% @List.map_map:=@List.map_map
theorem AAx:type_of% @List.eq_of_mem_replicate:=@List.eq_of_mem_replicate
theorem AAy:type_of% @Option.pure_def:=@Option.pure_def
theorem AAz:type_of% @List.mem_append:=@List.mem_append
theorem AA0:type_of% @List.length_nil:=@List.length_nil
theorem AA1:type_of% @Bool.not_false:=@Bool.not_false
theorem AA2:type_of% @Bool.false_and:=@Bool.false_and
theorem AA3:type_of% @List.take_succ_eq_append_getElem:=@List.take_succ_eq_append_getElem
theorem AA4:type_of% @true_and:=@true_and
theorem AA5:type_of% @List.drop_eq_nil_of_le:=@List.drop_eq_nil_of_le
theorem AA6:type_of% @List.take_append_drop:=@List.take_append_drop
theorem AA7:type_of% @List.set_append_right:=@List.set_append_right
theorem AA8:type_of% @List.drop_append:=@List.drop_append
theorem AA9:type_of% @List.any_eq_true:=@List.any_eq_true
theorem ABA:type_of% @Bool.or_false:=@Bool.or_false
theorem ABB:type_of% @Bool.not_true:=@Bool.not_true
theorem ABC:type_of% @if_false:=@if_false
theorem ABD:type_of% @List.foldl_cons:=@List.foldl_cons
theorem ABE:type_of% @List.drop_succ_cons:=@List.drop_succ_cons
theorem ABF:type_of% @List.take_succ_cons:=@List.take_succ_cons
theorem ABG:type_of% @Nat.min_self:=@Nat.min_self
theorem ABH:type_of% @Nat.mul_comm:=@Nat.mul_comm
theorem ABI:type_of% @Int.fdiv_eq_ediv_of_nonneg:=@Int.fdiv_eq_ediv_of_nonneg
theorem ABJ:type_of% @List.extract_eq_take_drop:=@List.extract_eq_take_drop
theorem ABK:type_of% @List.mem_of_find?_eq_some:=@List.mem_of_find?_eq_some
theorem ABL:type_of% @Nat.mul_pos:=@Nat.mul_pos
theorem ABM:type_of% @Array.size_append:=@Array.size_append
theorem ABN:type_of% @List.flatMap_cons:=@List.flatMap_cons
theorem ABO:type_of% @Bool.and_true:=@Bool.and_true
theorem ABP:type_of% @Nat.mul_assoc:=@Nat.mul_assoc
theorem ABQ:type_of% @List.take_nil:=@List.take_nil
theorem ABR:type_of% @Array.getElem?_replicate:=@Array.getElem?_replicate
theorem ABS:type_of% @List.drop_length:=@List.drop_length
theorem ABT:type_of% @List.take_append:=@List.take_append
theorem ABU:type_of% @ByteArray.data_extract:=@ByteArray.data_extract
theorem ABV:type_of% @Nat.sub_zero:=@Nat.sub_zero
theorem ABW:type_of% @beq_iff_eq:=@beq_iff_eq
theorem ABX:type_of% @Nat.mul_ne_zero:=@Nat.mul_ne_zero
theorem ABY:type_of% @Int.natCast_pow:=@Int.natCast_pow
theorem ABZ:type_of% @List.map_append:=@List.map_append
theorem ABa:type_of% @List.getElem?_toArray:=@List.getElem?_toArray
theorem ABb:type_of% @Array.toList_extract:=@Array.toList_extract
theorem ABc:type_of% @List.map_id:=@List.map_id
theorem ABd:type_of% @Nat.pow_le_pow_right:=@Nat.pow_le_pow_right
theorem ABe:type_of% @Nat.sub_mul:=@Nat.sub_mul
theorem ABf:type_of% @List.getElem?_zipIdx:=@List.getElem?_zipIdx
theorem ABg:type_of% @List.flatMap_append:=@List.flatMap_append
theorem ABi:type_of% @Nat.add_comm:=@Nat.add_comm
theorem ABj:type_of% @Nat.pow_zero:=@Nat.pow_zero
theorem ABk:type_of% @and_congr:=@and_congr
theorem ABl:type_of% @Nat.one_mul:=@Nat.one_mul
theorem ABm:type_of% @Nat.pow_pos:=@Nat.pow_pos
theorem ABn:type_of% @Nat.le_succ:=@Nat.le_succ
theorem ABo:type_of% @Array.getElem?_modify:=@Array.getElem?_modify
theorem ABp:type_of% @Nat.zero_mul:=@Nat.zero_mul
theorem ABq:type_of% @Nat.ne_of_lt:=@Nat.ne_of_lt
theorem ABr:type_of% @Nat.eq_zero_or_pos:=@Nat.eq_zero_or_pos
structure AS where
 size:Int
 Ej:Int
 b:Ad
structure BP where
 at_:Int
 done:Bool
 Av:Ad
structure Ab where
 BB:List AS
 BJ:Option BP
 AR:Int
 ops:Int
 down:Bool
structure xB where
 res:Int
 st:AW
def Fu:AW->Nat->Nat
 | [],_=>0
 | s::r,k=>(bif Nat.beq s k then 1 else 0)+2 * Fu r k
abbrev NQ:=Int × As × Bool × Int × Int × Int
structure Cm where
 keys:List (As × List NQ)
 AR:List (List NQ)
inductive Pk where
 | CJ (m:AS)
 | Bw (L:List AS)
 | timer (p:Option BP)
 | dev (d:Ab)
 | tab (t:xB)
 | idx (x:Cm)
structure ED (m:AS):Prop where
 pos:0 < m.size
 eo:m.size<=8192
 len:(m.b.length:Int)<=m.size
 d0:0<=m.Ej
 d1:m.Ej<=m.b.length
structure IV (p:BP):Prop where
 a0:0 < p.at_
 a1:p.at_<=1000000
 k0:0 < p.Av.length
 k1:p.Av.length<=34
 k2:∀x∈p.Av,0<=x/\x<=8192
structure I6 (t:xB):Prop where
 l0:0 < t.st.length
 l1:t.st.length<=9
 s4:∀s∈t.st,s<=4
 r0:0<=t.res
 r1:t.res<=9
structure FQ (d:Ab):Prop where
 s0:2<=d.AR
 s1:d.AR<=32
 len:(d.BB.length:Int)=d.AR+2
 BJ:∀p,d.BJ=some p->IV p
abbrev FZ:=List (Option (List NQ))
abbrev Aw:=List NQ
inductive SK where
 | int (k:IntKind)
 | bool
 | str
 | tok
abbrev EK:=List SK
@[reducible] def SK.C:SK->Type
 | .int _=>Int
 | .bool=>Bool
 | .str=>As
 | .tok=>Value
def SK.enc:(s:SK)->s.C->Value
 | .int k,n=> .int k n
 | .bool,b=> .bool b
 | .str,s=> .string s
 | .tok,v=>v
def SK.dec:(s:SK)->Value->Option s.C
 | .int k,.int k' n=>bif decide (k=k')then some n else none
 | .bool,.bool b=>some b
 | .str,.string s=>some s
 | .tok,v=>some v
 | _,_=>none
theorem SK.Ig:∀(s:SK) (v:Value) (x:s.C),s.dec v=some x->s.enc x=v:=by
 intro s v x h;cases s with
 | int k=>
  cases v<;>simp only[SK.dec,reduceCtorEq]at h
  rename_i k' n
  by_cases e:k=k'
  ·subst e;simp only[decide_true,C8]at h;cases h;rfl
  ·simp[e]at h
 | bool=>cases v<;>simp only[SK.dec,reduceCtorEq]at h;cases h;rfl
 | str=>cases v<;>simp only[SK.dec,reduceCtorEq]at h;cases h;rfl
 | tok=>simp only[SK.dec]at h;cases h;rfl
@[reducible] def EK.C:EK->Type
 | []=>Unit
 | [s]=>s.C
 | s::t::r=>s.C × EK.C (t::r)
def EK.enc:(k:EK)->EK.C k->AL
 | [],_=>[]
 | [s],x=>[s.enc x]
 | s::t::r,x=>s.enc x.1::EK.enc (t::r) x.2
def EK.dec:(k:EK)->AL->Option (EK.C k)
 | []=>fun l=>match l with
  | []=>some ()
  | _::_=>none
 | [s]=>fun l=>match l with
  | v::r=>match r with
   | []=>s.dec v
   | _::_=>none
  | []=>none
 | s::t::r=>fun l=>match l with
  | v::l=>match s.dec v,EK.dec (t::r) l with
   | some x,some y=>some (x,y)
   | _,_=>none
  | []=>none
theorem EK.Cd:∀(k:EK) (x:EK.C k),(EK.enc k x).length=k.length
 | [],_=>rfl
 | [_],_=>rfl
 | _::t::r,x=>by simp only[EK.enc,bT,EK.Cd (t::r) x.2]
theorem EK.Ig:∀(k:EK) (l:AL) (x:EK.C k),EK.dec k l=some x->EK.enc k x=l
 | []=>fun l x h=>by
  cases l with
  | nil=>rfl
  | cons v l=>cases h
 | [s]=>fun l x h=>by
  cases l with
  | nil=>cases h
  | cons v l=>cases l with
   | nil=>simp only[EK.dec]at h;simp only[EK.enc];rw[SK.Ig s v x h]
   | cons w l=>cases h
 | s::t::r=>fun l x h=>by
  cases l with
  | nil=>cases h
  | cons v l=>
   simp only[EK.dec]at h;split at h
   ·rename_i a b ha hb;cases h
    simp only[EK.enc];rw[SK.Ig s v a ha,EK.Ig (t::r) l b hb]
   ·cases h
def Ag (k:EK) (l:List (EK.C k)):AL:=l.flatMap (EK.enc k)
theorem lF (k:EK):Ag k []=[]:=rfl
theorem DP (k:EK) (x:EK.C k) (l:List (EK.C k)):Ag k (x::l)=EK.enc k x++Ag k l:=rfl
theorem Cj (k:EK) (l m:List (EK.C k)):Ag k (l++m)=Ag k l++Ag k m:=by simp[Ag]
theorem BH (k:EK) (l:List (EK.C k)):(Ag k l).length=l.length * k.length:=by
 induction l with
 | nil=>simp[Ag]
 | cons x l ih=>rw[DP,Pq,EK.Cd,ih,bT,AAT];omega
theorem Ei (k:EK):∀(i:Nat) (l:List (EK.C k)),(Ag k l).drop (i * k.length)=Ag k (l.drop i)
 | 0,l=>by simp
 | i+1,[]=>by simp[Ag]
 | i+1,x::l=>by
  rw[DP,ABE,<-Ei k i l,AA8,EK.Cd];have h1:List.drop ((i+1) * k.length) (EK.enc k x)=[]:=AA5 (by rw[EK.Cd,AAT];omega);have h2:(i+1) * k.length - k.length=i * k.length:=by rw[AAT];omega
  rw[h1,h2,ic]
theorem D8 (k:EK):∀(i:Nat) (l:List (EK.C k)),(Ag k l).take (i * k.length)=Ag k (l.take i)
 | 0,l=>by simp[Ag]
 | i+1,[]=>by simp[Ag]
 | i+1,x::l=>by
  rw[DP,ABF,DP,<-D8 k i l,ABT,EK.Cd];have h1:List.take ((i+1) * k.length) (EK.enc k x)=EK.enc k x:=Nw (by rw[EK.Cd,AAT];omega);have h2:(i+1) * k.length - k.length=i * k.length:=by rw[AAT];omega
  rw[h1,h2]
inductive Ct where
 | eg (t e:TypeId) (l:List UInt8)
 | pack (s:Pk)
 | mem (k:EK) (L:List (Option (List (EK.C k))))
 | Bl (L:List (Option Pk))
structure Bc where
 c:Nat
 d:Nat
 r:Nat
 e:Nat
abbrev Ae:=Nat->Option Bc
def Ae.le (μ ν:Ae):Prop:=∀b x,μ b=some x->ν b=some x
theorem Ae.le_refl (μ:Ae):μ.le μ:=fun _ _ h=>h
theorem Ae.le_trans {μ ν ξ:Ae} (h:μ.le ν) (h':ν.le ξ):μ.le ξ:=fun b x e=>h' b x (h b x e)
def Ae.ext (μ:Ae) (b:Nat) (x:Bc):Ae:=fun i=>if i=b then some x else μ i
theorem Ae.Cc {μ:Ae} {b:Nat} (x:Bc) (h:μ b=none):μ.le (μ.ext b x):=by
 intro i y e;unfold Ae.ext
 by_cases hi:i=b
 ·subst hi;rw[h]at e;cases e
 ·rw[JT hi];exact e
theorem Ae.Af (μ:Ae) (b:Nat) (x:Bc):μ.ext b x b=some x:=by simp[Ae.ext]
theorem Ae.BI (μ:Ae) {b i:Nat} (x:Bc) (h:i≠b):μ.ext b x i=μ i:=by simp[Ae.ext,h]
def Aa:Nat:=18446744073709551616
attribute [irreducible] Aa
def Ju (T:Bc) (o len cap cap':Nat):Prop:=(cap < Aa/\cap'=cap)∨(Aa<=cap/\cap - Aa<=cap'/\len<=cap'/\o+cap' * T.e<=T.r/\(T.e=1∨cap'<=9223372036854775807))
def Bv:Value:= .chan (some 0)
def X6 (a b:Nat):Nat:=2 ^ a * (2 * b+1)
theorem Ng:∀{a c b d:Nat},X6 a b=X6 c d->a=c/\b=d
 | 0,0,b,d,h=>by simp only[X6,ABj,ABl]at h;omega
 | 0,c+1,b,d,h=>by
  have e:2 ^ (c+1) * (2 * d+1)=2 * (2 ^ c * (2 * d+1)):=by rw[AAc,ABH (2 ^ c) 2,ABP]
  simp only[X6,ABj,ABl]at h;rw[e]at h;omega
 | a+1,0,b,d,h=>by
  have e:2 ^ (a+1) * (2 * b+1)=2 * (2 ^ a * (2 * b+1)):=by rw[AAc,ABH (2 ^ a) 2,ABP]
  simp only[X6,ABj,ABl]at h;rw[e]at h;omega
 | a+1,c+1,b,d,h=>by
  have e1:2 ^ (a+1) * (2 * b+1)=2 * X6 a b:=by unfold X6;rw[AAc,ABH (2 ^ a) 2,ABP]
  have e2:2 ^ (c+1) * (2 * d+1)=2 * X6 c d:=by unfold X6;rw[AAc,ABH (2 ^ c) 2,ABP]
  have h:2 ^ (a+1) * (2 * b+1)=2 ^ (c+1) * (2 * d+1):=h;rw[e1,e2]at h;obtain⟨h1,h2⟩:=Ng (a:=a) (c:=c) (b:=b) (d:=d) (by omega);exact⟨by omega,h2⟩
theorem Zw (a b:Nat):X6 a b≠0:=by
 unfold X6;have:=ABL (ABm (n:=a) (show 0 < 2 by decide)) (show 0 < 2 * b+1 by omega);omega
def CH:List Bc->Nat
 | []=>0
 | x::l=>X6 (X6 x.c (X6 x.d (X6 x.r x.e))) (CH l)
theorem Hk:∀{l m:List Bc},CH l=CH m->l=m
 | [],[],_=>rfl
 | [],_::_,h=>absurd h.symm (Zw _ _)
 | _::_,[],h=>absurd h (Zw _ _)
 | x::l,y::m,h=>by
  obtain⟨h1,h2⟩:=Ng h;obtain⟨c1,h1⟩:=Ng h1;obtain⟨c2,h1⟩:=Ng h1;obtain⟨c3,c4⟩:=Ng h1;obtain⟨a1,a2,a3,a4⟩:=x;obtain⟨b1,b2,b3,b4⟩:=y;simp only at c1 c2 c3 c4;subst c1 c2 c3 c4;rw[Hk h2]
open Classical in
def Kn (e j:Nat):Option Bc:=if h:∃l,CH l=e then(Classical.choose h)[j]? else none
theorem FG (l:List Bc) (j:Nat):Kn (CH l) j=l[j]?:=by
 unfold Kn;have h:∃m,CH m=CH l:=⟨l,rfl⟩
 rw[dif_pos h,Hk (Classical.choose_spec h)]
inductive Ii (μ:Ae):Fn->Fn->Prop where
 | func (f:FuncId):Ii μ (.func f) (.func f)
 | method (n:String):Ii μ (.method n) (.method n)
 | methodOf (t:TypeId) (n:String):Ii μ (.methodOf t n) (.methodOf t n)
 | via (t:TypeId) (p:Array FieldStep) (f:FuncId) (b:Bool):Ii μ (.via t p f b) (.via t p f b)
 | yield (l:Nat) (T:Bc) (h:μ l=some T):Ii μ (.yield l) (.yield T.c)
inductive AH (μ:Ae):Value->Value->Prop where
 | Bv (v:Value):AH μ AD.Bv v
 | bool (b:Bool):AH μ (.bool b) (.bool b)
 | int (k:IntKind) (n:Int):AH μ (.int k n) (.int k n)
 | float (k:FloatKind) (n:Nat):AH μ (.float k n) (.float k n)
 | string (s:As):AH μ (.string s) (.string s)
 | Hw:AH μ (.pointer none) (.pointer none)
 | ptr (b o:Nat) (T:Bc) (h:μ b=some T):AH μ (.pointer (some ⟨b,o,none⟩)) (.pointer (some ⟨T.c,T.d+o,none⟩))
 | CN (len cap:Nat):AH μ (.slice none len cap) (.slice none len cap)
 | slice (b o len cap cap' o':Nat) (T:Bc) (h:μ b=some T) (hc:Ju T o len cap cap') (ho:o'=T.d+o∨(len=0/\cap'=0)):
  AH μ (.slice (some ⟨b,o,none⟩) len cap) (.slice (some ⟨T.c,o',none⟩) len cap')
 | HS (b o i:Nat) (T:Bc) (h:μ b=some T) (hlo:o < Aa):AH μ (.pointer (some ⟨b,o,some i⟩)) (.pointer (some ⟨T.c,T.d+(i * T.e+o),none⟩))
 | HY (b o j:Nat) (T M:Bc) (h:μ b=some T) (hm:Kn T.e j=some M) (ho:o=Aa):AH μ (.pointer (some ⟨b,o,some j⟩)) (.pointer (some ⟨M.c,M.d,none⟩))
 | Bk (b i len cap cap' o':Nat) (T:Bc) (h:μ b=some T) (hc:Ju T (i * T.e) len cap cap') (ho:o'=T.d+i * T.e∨(len=0/\cap'=0)) (hr:T.r≠0):
  AH μ (.slice (some ⟨b,0,some i⟩) len cap) (.slice (some ⟨T.c,o',none⟩) len cap')
 | DW (b i cap:Nat) (T:Bc) (a:Option (Nat × Nat)) (h:μ b=some T) (hc:cap=0∨(Aa<=cap/\cap - Aa=0)):AH μ (.slice (some ⟨b,0,some i⟩) 0 cap) (.slice (a.map fun p=>⟨p.1,p.2,none⟩) 0 0)
 | Cl (b j len cap cap' o':Nat) (T M:Bc) (h:μ b=some T) (hm:Kn T.e j=some M) (hc:Ju M 0 len cap cap') (ho:o'=M.d∨(len=0/\cap'=0)) (hr:M.r≠0):
  AH μ (.slice (some ⟨b,1,some j⟩) len cap) (.slice (some ⟨M.c,o',none⟩) len cap')
 | F9 (b j cap:Nat) (T:Bc) (a:Option (Nat × Nat)) (h:μ b=some T) (hc:cap=0∨(Aa<=cap/\cap - Aa=0)):AH μ (.slice (some ⟨b,1,some j⟩) 0 cap) (.slice (a.map fun p=>⟨p.1,p.2,none⟩) 0 0)
 | IC:AH μ (.map none) (.map none)
 | map (b:Nat) (T:Bc) (h:μ b=some T):AH μ (.map (some b)) (.map (some T.c))
 | func (fn fn':Fn) (xs xs' ys ys':BR) (hf:Ii μ fn fn') (hx:xs.size=xs'.size)
  (ex:∀(i:Nat) (h:i < xs.size) (h':i < xs'.size),AH μ xs[i] xs'[i]) (hy:ys.size=ys'.size)
  (ey:∀(i:Nat) (h:i < ys.size) (h':i < ys'.size),AH μ ys[i] ys'[i]):AH μ (.func fn xs ys) (.func fn' xs' ys')
 | nilFunc:AH μ .nilFunc .nilFunc
 | iface (t:TypeId) (v v':Value) (h:AH μ v v'):AH μ (.iface t v) (.iface t v')
 | nilIface:AH μ .nilIface .nilIface
 | agg (xs xs':BR) (hx:xs.size=xs'.size) (ex:∀(i:Nat) (h:i < xs.size) (h':i < xs'.size),AH μ xs[i] xs'[i]):AH μ (.agg xs) (.agg xs')
 | tuple (xs xs':BR) (hx:xs.size=xs'.size) (ex:∀(i:Nat) (h:i < xs.size) (h':i < xs'.size),AH μ xs[i] xs'[i]):AH μ (.tuple xs) (.tuple xs')
theorem Ii.mono {μ ν:Ae} (hl:μ.le ν) {f f':Fn} (h:Ii μ f f'):Ii ν f f':=by
 cases h with
 | func f=>exact .func f
 | method n=>exact .method n
 | methodOf t n=>exact .methodOf t n
 | via t p f b=>exact .via t p f b
 | yield l T h=>exact .yield l T (hl _ _ h)
theorem AH.mono {μ ν:Ae} (hl:μ.le ν) {v v':Value} (h:AH μ v v'):AH ν v v':=by
 induction h with
 | Bv v=>exact .Bv v
 | bool b=>exact .bool b
 | int k n=>exact .int k n
 | float k n=>exact .float k n
 | string s=>exact .string s
 | Hw=>exact .Hw
 | ptr b o T h=>exact .ptr b o T (hl _ _ h)
 | CN l c=>exact .CN l c
 | slice b o l k k' o' T h hc ho=>exact .slice b o l k k' o' T (hl _ _ h) hc ho
 | HS b o i T h ho=>exact .HS b o i T (hl _ _ h) ho
 | HY b o j T M h hm ho=>exact .HY b o j T M (hl _ _ h) hm ho
 | Bk b i l k k' o' T h hc ho hr=>exact .Bk b i l k k' o' T (hl _ _ h) hc ho hr
 | DW b i k T a h hc=>exact .DW b i k T a (hl _ _ h) hc
 | Cl b j l k k' o' T M h hm hc ho hr=>exact .Cl b j l k k' o' T M (hl _ _ h) hm hc ho hr
 | F9 b j k T a h hc=>exact .F9 b j k T a (hl _ _ h) hc
 | IC=>exact .IC
 | map b T h=>exact .map b T (hl _ _ h)
 | func fn fn' xs xs' ys ys' hf hx _ hy _ ihx ihy=>exact .func fn fn' xs xs' ys ys' (hf.mono hl) hx ihx hy ihy
 | nilFunc=>exact .nilFunc
 | iface t v v' _ ih=>exact .iface t v v' ih
 | nilIface=>exact .nilIface
 | agg xs xs' hx _ ih=>exact .agg xs xs' hx ih
 | tuple xs xs' hx _ ih=>exact .tuple xs xs' hx ih
theorem AH.undef (μ:Ae):AH μ undef undef:= .tuple _ _ rfl (fun i h=>absurd h (by simp))
inductive Am (μ:Ae):AL->AL->Prop where
 | nil:Am μ [] []
 | cons {v v':Value} {l l':AL} (h:AH μ v v') (t:Am μ l l'):Am μ (v::l) (v'::l')
namespace Am
variable {μ ν:Ae}
theorem mono (hl:μ.le ν) {l l':AL} (h:Am μ l l'):Am ν l l':=by
 induction h with
 | nil=>exact .nil
 | cons h _ ih=>exact .cons (h.mono hl) ih
theorem length {l l':AL} (h:Am μ l l'):l.length=l'.length:=by
 induction h with
 | nil=>rfl
 | cons _ _ ih=>simp[ih]
theorem UA {l l':AL} (hs:l.length=l'.length) (h:∀(i:Nat) (h:i < l.length) (h':i < l'.length),AH μ l[i] l'[i]):Am μ l l':=by
 induction l generalizing l' with
 | nil=>cases l' with
  | nil=>exact .nil
  | cons=>cases hs
 | cons a l ih=>cases l' with
  | nil=>cases hs
  | cons a' l'=>
   refine .cons (h 0 (by simp) (by simp)) (ih (by simpa using hs) fun i h1 h2=>?_);exact h (i+1) (by simpa using h1) (by simpa using h2)
theorem idx {l l':AL} (h:Am μ l l'):∀(i:Nat) (h:i < l.length) (h':i < l'.length),AH μ l[i] l'[i]:=by
 induction h with
 | nil=>intro i h;simp at h
 | cons h _ ih=>
  intro i h1 h2;cases i with
  | zero=>exact h
  | succ i=>exact ih i (by simpa using h1) (by simpa using h2)
theorem get? {l l':AL} (h:Am μ l l') {i:Nat} {v:Value} (hv:l[i]? = some v):∃v',l'[i]? = some v'/\AH μ v v':=by
 induction h generalizing i with
 | nil=>simp at hv
 | cons h _ ih=>
  cases i with
  | zero=>simp at hv;subst hv;exact⟨_,rfl,h⟩
  | succ i=>simp at hv;simpa using ih hv
theorem append {a a' b b':AL} (h:Am μ a a') (h':Am μ b b'):Am μ (a++b) (a'++b'):=by
 induction h with
 | nil=>exact h'
 | cons h _ ih=>exact .cons h ih
theorem take {l l':AL} (h:Am μ l l') (n:Nat):Am μ (l.take n) (l'.take n):=by
 induction h generalizing n with
 | nil=>simp;exact .nil
 | cons h _ ih=>cases n with
  | zero=>exact .nil
  | succ n=>exact .cons h (ih n)
theorem drop {l l':AL} (h:Am μ l l') (n:Nat):Am μ (l.drop n) (l'.drop n):=by
 induction h generalizing n with
 | nil=>simp;exact .nil
 | cons h t ih=>cases n with
  | zero=>exact .cons h t
  | succ n=>exact ih n
theorem set {l l':AL} (h:Am μ l l') (i:Nat) {v v':Value} (hv:AH μ v v'):Am μ (l.set i v) (l'.set i v'):=by
 induction h generalizing i with
 | nil=>exact .nil
 | cons h t ih=>cases i with
  | zero=>exact .cons hv t
  | succ i=>exact .cons h (ih i)
theorem map {α:Type} (l:List α) (f g:α->Value) (h:∀x∈l,AH μ (f x) (g x)):Am μ (l.map f) (l.map g):=by
 induction l with
 | nil=>exact .nil
 | cons a l ih=>exact .cons (h a (by simp)) (ih fun x hx=>h x (by simp[hx]))
theorem replicate (n:Nat) {v v':Value} (h:AH μ v v'):Am μ (List.replicate n v) (List.replicate n v'):=by
 induction n with
 | zero=>exact .nil
 | succ n ih=>exact .cons h ih
end Am
theorem AH.Ce {μ:Ae} {xs:BR} {v':Value}:AH μ (.agg xs) v' ↔ ∃xs',v'= .agg xs'/\Am μ xs.toList xs'.toList:=by
 constructor
 ·intro h;cases h with
  | agg xs xs' hx ex=>exact⟨xs',rfl,.UA (by simpa using hx) fun i h1 h2=>by simpa using ex i (by simpa using h1) (by simpa using h2)⟩
 ·rintro⟨xs',rfl,h⟩;exact .agg _ _ (by simpa using h.length) fun i h1 h2=>h.idx i (by simpa using h1) (by simpa using h2)
theorem AH.CE {μ:Ae} {xs:BR} {v':Value}:AH μ (.tuple xs) v' ↔ ∃xs',v'= .tuple xs'/\Am μ xs.toList xs'.toList:=by
 constructor
 ·intro h;cases h with
  | tuple xs xs' hx ex=>exact⟨xs',rfl,.UA (by simpa using hx) fun i h1 h2=>by simpa using ex i (by simpa using h1) (by simpa using h2)⟩
 ·rintro⟨xs',rfl,h⟩;exact .tuple _ _ (by simpa using h.length) fun i h1 h2=>h.idx i (by simpa using h1) (by simpa using h2)
theorem AH.CL {μ:Ae} {fn:Fn} {xs ys:BR} {v':Value}:AH μ (.func fn xs ys) v' ↔
 ∃fn' xs' ys',v'= .func fn' xs' ys'/\Ii μ fn fn'/\Am μ xs.toList xs'.toList/\Am μ ys.toList ys'.toList:=by
 constructor
 ·intro h;cases h with
  | func fn fn' xs xs' ys ys' hf hx ex hy ey=>
   exact⟨fn',xs',ys',rfl,hf,.UA (by simpa using hx) fun i h1 h2=>by simpa using ex i (by simpa using h1) (by simpa using h2),
    .UA (by simpa using hy) fun i h1 h2=>by simpa using ey i (by simpa using h1) (by simpa using h2)⟩
 ·rintro⟨fn',xs',ys',rfl,hf,h,h'⟩;exact .func _ _ _ _ _ _ hf (by simpa using h.length) (fun i h1 h2=>h.idx i (by simpa using h1) (by simpa using h2))
   (by simpa using h'.length) (fun i h1 h2=>h'.idx i (by simpa using h1) (by simpa using h2))
def look (t:Tr Value) (i:Nat):Value:=(t.get i).getD Bv
def Gj (μ:Ae) (t:Tr Value) (n:Nat) (a:BR):Prop:=a.size=n/\∀i,AH μ (look t i) (a.getD i Go.undef)
theorem Gj.mono {μ ν:Ae} (hl:μ.le ν) {t:Tr Value} {n:Nat} {a:BR} (h:Gj μ t n a):Gj ν t n a:=⟨h.1,fun i=>(h.2 i).mono hl⟩
theorem Gj.put {μ:Ae} {t:Tr Value} {n:Nat} {a:BR} (h:Gj μ t n a) {d:Nat} (hd:d < n) {v v':Value} (hv:AH μ v v'):
 Gj μ (t.put d (some v)) n (a.setIfInBounds d v'):=by
 refine⟨by simp[h.1],fun i=>?_⟩;unfold look;rw[Tr.AU]
 by_cases e:i=d
 ·subst e;rw[MB rfl];have:(a.setIfInBounds i v').getD i Go.undef=v':=by
   rw[UP,lV];simp[h.1,hd]
  rw[this];exact hv
 ·rw[JT e];have:(a.setIfInBounds d v').getD i Go.undef=a.getD i Go.undef:=by
   rw[UP,lV];simp[Ne.symm e,Array.getD_eq_getD_getElem?]
  rw[this];exact h.2 i
inductive Is (μ:Ae):Target->Target->Prop where
 | fn (fn fn':Fn) (ys ys':BR) (hf:Ii μ fn fn') (hy:Am μ ys.toList ys'.toList):Is μ (.fn fn ys) (.fn fn' ys')
 | nil:Is μ .nil .nil
 | builtin (b:Builtin) (ts:Array TypeId) (t:TypeId) (cs:Array Bool):Is μ (.builtin b ts t cs) (.builtin b ts t cs)
 | collected (r:Nat) (T:Bc) (h:μ r=some T):Is μ (.collected r) (.collected T.c)
structure UU (μ:Ae) (d d':Deferred):Prop where
 w6:Is μ d.target d'.target
 args:Am μ d.args.toList d'.args.toList
theorem Is.mono {μ ν:Ae} (hl:μ.le ν) {t t':Target} (h:Is μ t t'):Is ν t t':=by
 cases h with
 | fn fn fn' ys ys' hf hy=>exact .fn fn fn' ys ys' (hf.mono hl) (hy.mono hl)
 | nil=>exact .nil
 | builtin b ts t cs=>exact .builtin b ts t cs
 | collected r T h=>exact .collected r T (hl _ _ h)
theorem UU.mono {μ ν:Ae} (hl:μ.le ν) {d d':Deferred} (h:UU μ d d'):UU ν d d':=⟨h.w6.mono hl,h.args.mono hl⟩
inductive CT (μ:Ae):List Deferred->List Deferred->Prop where
 | nil:CT μ [] []
 | cons {d d':Deferred} {l l':List Deferred} (h:UU μ d d') (t:CT μ l l'):CT μ (d::l) (d'::l')
theorem CT.mono {μ ν:Ae} (hl:μ.le ν) {l l':List Deferred} (h:CT μ l l'):CT ν l l':=by
 induction h with
 | nil=>exact .nil
 | cons h _ ih=>exact .cons (h.mono hl) ih
theorem CT.append {μ:Ae} {a a' b b':List Deferred} (h:CT μ a a') (h':CT μ b b'):CT μ (a++b) (a'++b'):=by
 induction h with
 | nil=>exact h'
 | cons h _ ih=>exact .cons h ih
structure il where
 state:LoopState
 pending:Option Code
 fn:FuncId
 tmps:Tr Value
 n:Nat
 params:Array Tmp
 assign:Code
 body:Code
 defers:Nat
inductive AP where
 | cells (cs:AL) (e:Nat) (ro:Bool)
 | loop (l:il)
 | deferred (calls:Option (List Deferred))
 | Ca (s:As) (pos:Nat)
 | map (es:List MapEntry) (clock:Nat)
 | vec (k:EK) (l:List (EK.C k)) (ro:Bool)
 | abs (a:Ct) (ro:Bool)
def AP.ro:AP->Bool
 | .cells _ _ ro=>ro
 | .vec _ _ ro=>ro
 | .abs _ ro=>ro
 | _=>false
def AP.isAbs:AP->Bool
 | .abs _ _=>true
 | _=>false
def AP.void (T:Bc):AP->Prop
 | .vec k l _=>l=[]/\T.r=0/\k.length≠0
 | .abs (.mem _ _) _=>True
 | .abs (.Bl _) _=>True
 | _=>False
def AP.Kg:AP->Bool
 | .cells _ _ _=>true
 | .vec _ _ _=>true
 | .abs _ _=>true
 | _=>false
inductive Jn (μ:Ae):List MapEntry->List MapEntry->Prop where
 | nil:Jn μ [] []
 | cons {e e':MapEntry} {l l':List MapEntry} (hk:AH μ e.key e'.key) (hv:AH μ e.val e'.val) (hb:e.born=e'.born) (t:Jn μ l l'):Jn μ (e::l) (e'::l')
theorem Jn.mono {μ ν:Ae} (hl:μ.le ν) {l l':List MapEntry} (h:Jn μ l l'):Jn ν l l':=by
 induction h with
 | nil=>exact .nil
 | cons hk hv hb _ ih=>exact .cons (hk.mono hl) (hv.mono hl) hb ih
inductive CZ (μ:Ae):Bc->AP->Obj->Prop where
 | cells (T:Bc) (cs:AL) (e:Nat) (ro:Bool) (c:BR) (t:TypeId) (lo hi:Nat) (he:e=T.e) (hc:Am μ cs ((c.toList.drop T.d).take cs.length))
  (hr:c.size=T.d+T.r) (hf:ro=false->∀i,i < c.size∨(i=c.size/\e≠1)->¬(lo<=i/\i < hi)):CZ μ T (.cells cs e ro) (.cells c t (lo,hi))
 | loop (T:Bc) (l:il) (a:BR) (R:Bc) (ht:Gj μ l.tmps l.n a) (hd:μ l.defers=some R):
  CZ μ T (.loop l) (.loop { state:=l.state,pending:=l.pending,fn:=l.fn,tmps:=a,params:=l.params,assign:=l.assign,body:=l.body,defers:=R.c })
 | EW (T:Bc):CZ μ T (.deferred none) (.deferred none)
 | deferred (T:Bc) (l l':List Deferred) (h:CT μ l l'):CZ μ T (.deferred (some l)) (.deferred (some l'))
 | Ca (T:Bc) (s:As) (p:Nat) (hd:T.d=0):CZ μ T (.Ca s p) (.stringIter s p)
 | map (T:Bc) (es:List MapEntry) (es':Array MapEntry) (clock:Nat) (h:Jn μ es es'.toList):CZ μ T (.map es clock) (.map es' clock)
 | vec (T:Bc) (k:EK) (l:List (EK.C k)) (ro:Bool) (o:Obj) (h:CZ μ T (.cells (Ag k l) k.length ro) o):CZ μ T (.vec k l ro) o
 | Du (T:Bc) (k:EK) (ro:Bool) (o:Obj) (he:k.length=T.e) (hr:T.r=0) (hk:k.length≠0):CZ μ T (.vec k [] ro) o
 | abs (T:Bc) (a:Ct) (ro:Bool) (o:Obj):CZ μ T (.abs a ro) o
theorem CZ.mono {μ ν:Ae} (hl:μ.le ν) {T:Bc} {o:AP} {o':Obj} (h:CZ μ T o o'):CZ ν T o o':=by
 induction h with
 | cells cs e ro c t lo hi he hc hr hf=>exact .cells T cs e ro c t lo hi he (hc.mono hl) hr hf
 | loop l a R ht hd=>exact .loop T l a R (ht.mono hl) (hl _ _ hd)
 | EW=>exact .EW T
 | deferred l l' h=>exact .deferred T l l' (h.mono hl)
 | Ca s p hd=>exact .Ca T s p hd
 | map es es' clock h=>exact .map T es es' clock (h.mono hl)
 | vec k l ro o _ ih=>exact .vec T k l ro o ih
 | Du k ro o he hr hk=>exact .Du T k ro o he hr hk
 | abs a ro o=>exact .abs T a ro o
abbrev Bm:=Value->List (Option AP)->Prop
abbrev LR:=List (Option AP)
abbrev BN:=List AP
end Go.AD
namespace Go.AD
abbrev cU:Nat:=18446744073709551616
def Ds (a n:Nat):List (EK.C [.tok]):=(List.range n).map fun j=>Value.pointer (some ⟨a,cU,some j⟩)
def GL (a:Nat) (S:List (Aw)):List (EK.C [.tok]):=S.zipIdx.map fun p=>Value.slice (some ⟨a,1,some p.2⟩) p.1.length cU
def Df (a:Nat) (K:List (As × Aw)):List (EK.C [.str,.tok]):=K.zipIdx.map fun p=>(p.1.1,Value.slice (some ⟨a,1,some p.2⟩) p.1.2.length cU)
abbrev Ah:EK:=[.int .i64,.str,.bool,.int .i64,.int .i64,.int .i64]
inductive Bx:Pk->BN->Prop where
 | CJ (m:AS) (h:ED m):Bx (.CJ m) [.cells [.slice (some ⟨1,0,some 0⟩) m.b.length cU,.int .i64 m.size,.int .i64 m.Ej] 0 false,.vec [.int .u8] m.b false]
 | Bw (L:List AS) (h:0 < L.length) (h2:L.length<=34):Bx (.Bw L) [.cells [.slice (some ⟨1,0,some 0⟩) L.length cU] 0 false,.vec [.tok] (Ds 2 L.length) false,.abs (.Bl (L.map fun m=>some (.CJ m))) false]
 | Zd:Bx (.timer none) [.cells [.bool true,.pointer none] 0 false]
 | ZL (p:BP) (h:IV p):Bx (.timer (some p)) [.cells [.bool true,.pointer (some ⟨1,0,none⟩)] 0 false,.cells [.int .i64 p.at_,.bool p.done,.slice (some ⟨2,0,some 0⟩) p.Av.length cU] 0 false,.vec [.int .i64] p.Av false]
 | dev (d:Ab) (h:FQ d):Bx (.dev d) [.cells [.pointer (some ⟨1,0,none⟩),.pointer (some ⟨2,0,none⟩),.int .i64 d.AR,.int .i64 d.ops,.bool d.down] 0 false,.abs (.pack (.Bw d.BB)) false,.abs (.pack (.timer d.BJ)) false]
 | tab (t:xB) (h:I6 t):Bx (.tab t) [.cells [.int .i64 t.st.length,.int .i64 t.res,.pointer (some ⟨1,0,none⟩),.pointer (some ⟨2,0,none⟩),.pointer (some ⟨3,0,none⟩),.pointer (some ⟨4,0,none⟩),.pointer (some ⟨5,0,none⟩)] 0 false,
  .cells [.int .i64 t.st.length,.int .u64 (Fu t.st 0)] 0 false,.cells [.int .i64 t.st.length,.int .u64 (Fu t.st 1)] 0 false,.cells [.int .i64 t.st.length,.int .u64 (Fu t.st 2)] 0 false,.cells [.int .i64 t.st.length,.int .u64 (Fu t.st 3)] 0 false,.cells [.int .i64 t.st.length,.int .u64 (Fu t.st 4)] 0 false]
 | idx (x:Cm):Bx (.idx x) [.cells [.pointer (some ⟨1,0,none⟩),.slice (some ⟨2,0,some 0⟩) x.AR.length cU] 0 false,.cells [.bool true,.slice (some ⟨3,0,some 0⟩) x.keys.length cU] 0 false,
  .vec [.tok] (GL 4 x.AR) false,.vec [.str,.tok] (Df 5 x.keys) false,.abs (.mem Ah (x.AR.map some)) false,.abs (.mem Ah (x.keys.map fun p=>some p.2)) false]
def C3:Pk->AW
 | _=>[]
structure AA where
 m:Tr AP
 next:Nat
def AA.get (H:AA) (b:Nat):Option AP:=H.m.get b
def AA.put (H:AA) (b:Nat) (o:AP):AA:=⟨H.m.put b (some o),H.next⟩
def AA.del (H:AA) (b:Nat):AA:=⟨H.m.put b none,H.next⟩
def AA.alloc (H:AA) (o:AP):AA:=⟨H.m.put H.next (some o),H.next+1⟩
theorem AA.AU (H:AA) (b i:Nat) (o:AP):(H.put b o).get i=if i=b then some o else H.get i:=Tr.AU ..
theorem AA.BU (H:AA) (b i:Nat):(H.del b).get i=if i=b then none else H.get i:=Tr.AU ..
theorem AA.AM (H:AA) (i:Nat) (o:AP):(H.alloc o).get i=if i=H.next then some o else H.get i:=Tr.AU ..
theorem SM {W W':World} {e:TypeId} {v:Value} {n:Nat} {xs:AL} (h:W.ownsRowF 0 e 1 v n xs) (hs:∀i,v.ownBlock=some i->W'.heap[i]? = W.heap[i]?):W'.ownsRowF 0 e 1 v n xs:=by
 obtain⟨h1,h2⟩:=h;refine⟨h1,?_⟩;rcases h2 with h2 | ⟨g,cap,cur,fz,rfl,h3,h4,h5⟩
 ·exact .inl h2
 ·exact .inr ⟨g,cap,cur,fz,rfl,h3,by rw[hs g rfl];exact h4,h5⟩
theorem WK {W:World} {e:TypeId} {v:Value} {n:Nat} {xs:AL} (h:W.ownsRowF 0 e 1 v n xs) {i:Nat} (hi:v.ownBlock=some i):i < W.heap.size:=by
 obtain⟨h1,h2⟩:=h;rcases h2 with⟨rfl,_⟩ | ⟨g,cap,cur,fz,rfl,h3,h4,h5⟩
 ·cases hi
 ·have hi:g=i:=by simpa [Value.ownBlock] using hi
  subst hi;rcases U1 g W.heap.size with h' | h'
  ·exact h'
  ·rw[ud h']at h4;cases h4
def GH (t e:TypeId) (l:List UInt8) (T:Bc) (F:Nat->Prop) (W:World):Prop:=T.d=0/\∃p v:Value,(p= .pointer none∨p= .pointer (some ⟨T.c,0,none⟩))/\W.heap[T.c]? = some (.cells #[p,v] t (0,0))/\W.ownsRowF 0 e 1 v l.length (Lib.byteCells l)/\v.ownBlock≠some T.c/\
 ∀i,F i ↔ i=T.c∨v.ownBlock=some i
def Qn (ν:Ae) (ts:List Bc) (ext:AW):Ae:=fun b=>if b < ts.length then ts[b]? else match ext[b - ts.length]? with
 | some m=>ν m
 | none=>none
theorem Zo {ν:Ae} {ts:List Bc} {ext:AW} {b:Nat} (h:b < ts.length):Qn ν ts ext b=ts[b]?:=MB h
theorem k9 (ν ν':Ae) (ts:List Bc):Qn ν ts []=Qn ν' ts []:=by
 funext b
 unfold Qn;split
 ·rfl
 ·rfl
theorem oM {ν ν':Ae} (h:ν.le ν') (ts:List Bc) (ext:AW):(Qn ν ts ext).le (Qn ν' ts ext):=by
 intro b X hX;unfold Qn at hX ⊢;split at hX
 ·rename_i hb;rw[MB hb];exact hX
 ·rename_i hb;rw[JT hb];split at hX
  ·rename_i m hm;exact h _ _ hX
  ·cases hX
theorem CZ.sk {μ:Ae} (ν:Ae) {T:Bc} {o:AP} {o':Obj} (h:CZ μ T o o') (hv:o.void T) (o2:Obj):CZ ν T o o2:=by
 cases o<;>first | (exact hv.elim) | (exact .abs ..) | skip
 rename_i k l ro;obtain⟨hl0,hr0,hk⟩:=hv;subst hl0;have he:k.length=T.e:=by
  cases h with
  | vec _ _ _ _ hc=>cases hc with
   | cells _ _ _ _ _ _ _ he=>exact he
  | Du _ _ _ he hr=>exact he
 exact .Du T k ro _ he hr0 hk
theorem CZ.Av {μ:Ae} {T:Bc} {o:AP} {W W':World} (h:∃o',W.heap[T.c]? = some o'/\CZ μ T o o') (hsz:W.heap.size<=W'.heap.size) (hs:¬o.void T->W'.heap[T.c]? = W.heap[T.c]?):∃o',W'.heap[T.c]? = some o'/\CZ μ T o o':=by
 obtain⟨o',h1,h2⟩:=h
 by_cases hv:o.void T
 ·have hl:T.c < W'.heap.size:=by
   refine nI ?_ hsz;rcases U1 T.c W.heap.size with h' | h'
   ·exact h'
   ·rw[ud h']at h1;cases h1
  exact⟨_,dm hl,h2.sk μ hv _⟩
 ·exact⟨o',by rw[hs hv];exact h1,h2⟩
theorem lt_of_heap {W:World} {i:Nat} {o:Obj} (h:W.heap[i]? = some o):i < W.heap.size:=by
 rcases U1 i W.heap.size with h' | h'
 ·exact h'
 ·rw[ud h']at h;cases h
structure MI (k:EK) (L:List (Option (List (EK.C k)))) (T:Bc) (F:Nat->Prop) (W:World) (ts:List Bc):Prop where
 code:T.e=CH ts
 len:ts.length=L.length
 Zc:T.c < W.heap.size
 row:∀(j:Nat) (M:Bc) (l:List (EK.C k)),ts[j]? = some M->L[j]? = some (some l)->∃o',W.heap[M.c]? = some o'/\CZ (fun _=>none) M (.vec k l false) o'
 inj:∀(i j:Nat) (M N:Bc) (l m:List (EK.C k)),ts[i]? = some M->ts[j]? = some N->L[i]? = some (some l)->L[j]? = some (some m)->¬(AP.vec k l false).void M->¬(AP.vec k m false).void N->M.c=N.c->i=j
 own:∀x,F x ↔ ∃(j:Nat) (M:Bc) (l:List (EK.C k)),ts[j]? = some M/\L[j]? = some (some l)/\¬(AP.vec k l false).void M/\x=M.c
theorem MI.loc {k:EK} {L:List (Option (List (EK.C k)))} {T:Bc} {F:Nat->Prop} {W W':World} {ts:List Bc} (hsz:W.heap.size<=W'.heap.size) (h:MI k L T F W ts) (hs:∀i,F i->W'.heap[i]? = W.heap[i]?):MI k L T F W' ts:=
 ⟨h.code,h.len,nI h.Zc hsz,fun j M l h1 h2=>CZ.Av (h.row j M l h1 h2) hsz fun hv=>hs _ ((h.own _).2 ⟨j,M,l,h1,h2,hv,rfl⟩),h.inj,h.own⟩
theorem MI.JA {k:EK} {L:List (Option (List (EK.C k)))} {T:Bc} {F:Nat->Prop} {W:World} {ts:List Bc} (h:MI k L T F W ts):∀i,F i->i < W.heap.size:=fun i hi=>by
 obtain⟨j,M,l,h1,h2,_,rfl⟩:=(h.own i).1 hi;obtain⟨o',h3,_⟩:=h.row j M l h1 h2;exact lt_of_heap h3
structure Oh (L:List (Option Pk)) (T:Bc) (F:Nat->Prop) (W:World) (us:List Bc) (Fm:Nat->Nat->Prop):Prop where
 code:T.e=CH us
 len:us.length=L.length
 Zc:T.c < W.heap.size
 ext:∀(j:Nat) (s:Pk),L[j]? = some (some s)->C3 s=[]
 xM:∀(i j x:Nat) (s t:Pk),L[i]? = some (some s)->L[j]? = some (some t)->Fm i x->Fm j x->i=j
 own:∀x,F x ↔ ∃(j:Nat) (s:Pk),L[j]? = some (some s)/\Fm j x
theorem Oh.at {L:List (Option Pk)} {T:Bc} {F:Nat->Prop} {W:World} {us:List Bc} {Fm:Nat->Nat->Prop} (h:Oh L T F W us Fm) {j:Nat} {s:Pk} (hj:L[j]? = some (some s)):∃M,us[j]? = some M:=
 ⟨_,Jj (by rw[h.len];exact(List.getElem?_eq_some_iff.1 hj).1)⟩
theorem Oh.grow {L:List (Option Pk)} {T:Bc} {F:Nat->Prop} {W W':World} {us:List Bc} {Fm:Nat->Nat->Prop} (h:Oh L T F W us Fm) (hsz:W.heap.size<=W'.heap.size):Oh L T F W' us Fm:=
 ⟨h.code,h.len,nI h.Zc hsz,h.ext,h.xM,h.own⟩
inductive Fg (ν:Ae) (W:World):Pk->Bc->(Nat->Prop)->Prop where
 | mk (s:Pk) (objs:BN) (ts:List Bc) (Fs:Nat->Nat->Prop) (T:Bc) (F:Nat->Prop) (hr:Bx s objs) (hl:ts.length=objs.length) (hT:ts[0]? = some T)
  (hroot:∀o,objs[0]? = some o->¬o.void T)
  (hobj:∀(i:Nat) (o:AP) (T':Bc),objs[i]? = some o->ts[i]? = some T'->o.ro=false/\o.Kg=true/\∃o',W.heap[T'.c]? = some o'/\CZ (Qn ν ts (C3 s)) T' o o')
  (hcell:∀(i:Nat) (o:AP) (T':Bc),objs[i]? = some o->ts[i]? = some T'->o.isAbs=false->∀x,Fs i x ↔ (x=T'.c/\¬o.void T'))
  (hbld:∀(i:Nat) (t e:TypeId) (l:List UInt8) (ro:Bool) (T':Bc),objs[i]? = some (.abs (.eg t e l) ro)->ts[i]? = some T'->GH t e l T' (Fs i) W)
  (hmem:∀(i:Nat) (k:EK) (L:List (Option (List (EK.C k)))) (ro:Bool) (T':Bc),objs[i]? = some (.abs (.mem k L) ro)->ts[i]? = some T'->∃us,MI k L T' (Fs i) W us)
  (hext:∀(i:Nat) (s':Pk) (ro:Bool),objs[i]? = some (.abs (.pack s') ro)->C3 s'=[])
  (hpack:∀(i:Nat) (s':Pk) (ro:Bool) (T':Bc),objs[i]? = some (.abs (.pack s') ro)->ts[i]? = some T'->Fg ν W s' T' (Fs i))
  (hdis:∀(i j x:Nat),i < objs.length->j < objs.length->Fs i x->Fs j x->i=j)
  (hF:∀x,F x ↔ ∃i,i < objs.length/\Fs i x) (us:Nat->List Bc) (Fm:Nat->Nat->Nat->Prop)
  (hmp:∀(i:Nat) (L:List (Option Pk)) (ro:Bool) (T':Bc),objs[i]? = some (.abs (.Bl L) ro)->ts[i]? = some T'->Oh L T' (Fs i) W (us i) (Fm i))
  (hmq:∀(i:Nat) (L:List (Option Pk)) (ro:Bool) (j:Nat) (M:Bc) (s':Pk),objs[i]? = some (.abs (.Bl L) ro)->(us i)[j]? = some M->L[j]? = some (some s')->Fg ν W s' M (Fm i j)):Fg ν W s T F
def GB (ν:Ae):Ct->Bc->(Nat->Prop)->World->Prop
 | .eg t e l,T,F,W=>GH t e l T F W
 | .pack s,T,F,W=>Fg ν W s T F
 | .mem k L,T,F,W=>∃us,MI k L T F W us
 | .Bl L,T,F,W=>∃us Fm,Oh L T F W us Fm/\∀(j:Nat) (M:Bc) (s:Pk),us[j]? = some M->L[j]? = some (some s)->Fg ν W s M (Fm j)
theorem GH.loc {t e:TypeId} {l:List UInt8} {T:Bc} {F:Nat->Prop} {W W':World} (h:GH t e l T F W) (hs:∀i,F i->W'.heap[i]? = W.heap[i]?):GH t e l T F W':=by
 obtain⟨hd,p,v,h1,h2,h3,h4,h5⟩:=h;exact⟨hd,p,v,h1,by rw[hs _ ((h5 _).2 (.inl rfl))];exact h2,SM h3 (fun i hi=>hs i ((h5 i).2 (.inr hi))),h4,h5⟩
theorem GH.JA {t e:TypeId} {l:List UInt8} {T:Bc} {F:Nat->Prop} {W:World} (h:GH t e l T F W):F T.c/\∀i,F i->i < W.heap.size:=by
 obtain⟨hd,p,v,h1,h2,h3,h4,h5⟩:=h;refine⟨(h5 _).2 (.inl rfl),fun i hi=>?_⟩;rcases(h5 i).1 hi with rfl | hi
 ·rcases U1 T.c W.heap.size with h' | h'
  ·exact h'
  ·rw[ud h']at h2;cases h2
 ·exact WK h3 hi
theorem Fb {o:AP} (h:o.isAbs=true):∃a ro,o= .abs a ro:=by
 cases o<;>first | exact⟨_,_,rfl⟩ | cases h
theorem Fg.JA {ν:Ae} {W:World} {s:Pk} {T:Bc} {F:Nat->Prop} (h:Fg ν W s T F):F T.c/\∀i,F i->i < W.heap.size:=by
 induction h with
 | mk s objs ts Fs T F hr hl hT hroot hobj hcell hbld hmem hext hpack hdis hF us Fm hmp hmq ih ihq=>
  have one:∀i,i < objs.length->∃o T',objs[i]? = some o/\ts[i]? = some T'/\(¬o.void T'->Fs i T'.c)/\∀x,Fs i x->x < W.heap.size:=by
   intro i hi;have ho:=Jj hi;have ht:=Jj (l:=ts) (i:=i) (by omega);refine⟨_,_,ho,ht,?_⟩;cases hab:(objs[i]).isAbs
   ·have hc:=hcell i _ _ ho ht hab;obtain⟨_,_,o',h1,_⟩:=hobj i _ _ ho ht;exact⟨fun hv=>(hc _).2 ⟨rfl,hv⟩,fun x hx=>by rw[((hc x).1 hx).1];exact lt_of_heap h1⟩
   ·obtain⟨a,ro,ha⟩:=Fb hab;rw[ha]at ho;cases a with
    | eg t e l=>exact⟨fun _=>(GH.JA (hbld i t e l ro _ ho ht)).1,(GH.JA (hbld i t e l ro _ ho ht)).2⟩
    | pack s'=>exact⟨fun _=>(ih i s' ro _ ho ht).1,(ih i s' ro _ ho ht).2⟩
    | mem k L=>obtain⟨us,hu⟩:=hmem i k L ro _ ho ht;exact⟨fun hv=>absurd (by rw[ha];trivial) hv,hu.JA⟩
    | Bl L=>
     refine⟨fun hv=>absurd (by rw[ha];trivial) hv,fun x hx=>?_⟩;have hu:=hmp i L ro _ ho ht;obtain⟨j,s',h1,h2⟩:=(hu.own x).1 hx;obtain⟨M,hM⟩:=hu.at h1;exact(ihq i L ro j M s' ho hM h1).2 x h2
  have h0:0 < objs.length:=by
   rcases ABr objs.length with h | h
   ·rw[T6 (by omega)]at hT;cases hT
   ·exact h
  obtain⟨o,T',e0,e1,e2,_⟩:=one 0 h0;rw[hT]at e1;cases e1
  refine⟨(hF _).2 ⟨0,h0,e2 (hroot o e0)⟩,fun x hx=>?_⟩;obtain⟨i,hi,hx⟩:=(hF x).1 hx;obtain⟨_,_,_,_,_,e3⟩:=one i hi;exact e3 x hx
theorem Fg.loc {ν:Ae} {W W':World} (hsz:W.heap.size<=W'.heap.size) {s:Pk} {T:Bc} {F:Nat->Prop} (h:Fg ν W s T F):(∀i,F i->W'.heap[i]? = W.heap[i]?)->Fg ν W' s T F:=by
 induction h with
 | mk s objs ts Fs T F hr hl hT hroot hobj hcell hbld hmem hext hpack hdis hF us Fm hmp hmq ih ihq=>
  intro hs;have hin:∀i,i < objs.length->∀x,Fs i x->W'.heap[x]? = W.heap[x]?:=fun i hi x hx=>hs x ((hF x).2 ⟨i,hi,hx⟩)
  have lt:∀(i:Nat) (o:AP),objs[i]? = some o->i < objs.length:=fun i o ho=>(List.getElem?_eq_some_iff.1 ho).1
  refine .mk s objs ts Fs T F hr hl hT hroot ?_ hcell ?_ ?_ hext ?_ hdis hF us Fm (fun i L ro T' ho ht=>(hmp i L ro T' ho ht).grow hsz) ?_
  ·intro i o T' ho ht;obtain⟨h1,h2,o',h3,h4⟩:=hobj i o T' ho ht;refine⟨h1,h2,?_⟩
   by_cases hv:o.void T'
   ·have hl':T'.c < W'.heap.size:=nI (lt_of_heap h3) hsz;refine⟨W'.heap[T'.c],dm hl',?_⟩;cases o<;>first | (exact hv.elim) | (exact .abs ..) | skip
    rename_i k l ro;obtain⟨hl0,hr0,hk⟩:=hv;subst hl0;have he:k.length=T'.e:=by
     cases h4 with
     | vec _ _ _ _ hc=>cases hc with
      | cells _ _ _ _ _ _ _ he=>exact he
     | Du _ _ _ he hr=>exact he
    exact .Du T' k ro _ he hr0 hk
   ·refine⟨o',?_,h4⟩;rw[hin i (lt i o ho)]
    ·exact h3
    ·cases hab:o.isAbs
     ·exact(hcell i o T' ho ht hab _).2 ⟨rfl,hv⟩
     ·obtain⟨a,ro,rfl⟩:=Fb hab;cases a with
      | eg t e l=>exact(GH.JA (hbld i t e l ro T' ho ht)).1
      | pack s'=>exact(Fg.JA (hpack i s' ro T' ho ht)).1
      | mem k L=>exact absurd trivial hv
      | Bl L=>exact absurd trivial hv
  ·intro i t e l ro T' ho ht;exact(hbld i t e l ro T' ho ht).loc (hin i (lt i _ ho))
  ·intro i k L ro T' ho ht;obtain⟨us,hu⟩:=hmem i k L ro T' ho ht;exact⟨us,hu.loc hsz (hin i (lt i _ ho))⟩
  ·intro i s' ro T' ho ht;exact ih i s' ro T' ho ht (hin i (lt i _ ho))
  ·intro i L ro j M s' ho hM hj;have hi:=lt i _ ho;obtain⟨T',ht⟩:∃T',ts[i]? = some T':=⟨_,Jj (by omega)⟩
   exact ihq i L ro j M s' ho hM hj fun x hx=>hin i hi x (((hmp i L ro T' ho ht).own x).2 ⟨j,s',hj,hx⟩)
theorem Fg.mono {ν ν':Ae} (hle:ν.le ν') {W:World} {s:Pk} {T:Bc} {F:Nat->Prop} (h:Fg ν W s T F):Fg ν' W s T F:=by
 induction h with
 | mk s objs ts Fs T F hr hl hT hroot hobj hcell hbld hmem hext hpack hdis hF us Fm hmp hmq ih ihq=>
  refine .mk s objs ts Fs T F hr hl hT hroot (fun i o T' ho ht=>?_) hcell hbld hmem hext ih hdis hF us Fm hmp ihq;obtain⟨h1,h2,o',h3,h4⟩:=hobj i o T' ho ht;exact⟨h1,h2,o',h3,h4.mono (oM hle _ _)⟩
theorem Fg.closed {ν:Ae} (ν':Ae) {W:World} {s:Pk} {T:Bc} {F:Nat->Prop} (h:Fg ν W s T F):C3 s=[]->Fg ν' W s T F:=by
 induction h with
 | mk s objs ts Fs T F hr hl hT hroot hobj hcell hbld hmem hext hpack hdis hF us Fm hmp hmq ih ihq=>
  intro he;refine .mk s objs ts Fs T F hr hl hT hroot (fun i o T' ho ht=>?_) hcell hbld hmem hext (fun i s' ro T' ho ht=>ih i s' ro T' ho ht (hext i s' ro ho)) hdis hF us Fm hmp (fun i L ro j M s' ho hM hj=>ihq i L ro j M s' ho hM hj (by
   have hi:=(List.getElem?_eq_some_iff.1 ho).1;exact(hmp i L ro _ ho (Jj (by omega))).ext j s' hj))
  obtain⟨h1,h2,o',h3,h4⟩:=hobj i o T' ho ht;refine⟨h1,h2,o',h3,?_⟩;rw[he]at h4 ⊢;rw[k9 ν' ν];exact h4
theorem GB.loc:∀{ν:Ae} a T F (W W':World),W.heap.size<=W'.heap.size->GB ν a T F W->(∀i,F i->W'.heap[i]? = W.heap[i]?)->GB ν a T F W':=by
 intro ν a T F W W' hsz h hs;cases a with
 | eg t e l=>exact GH.loc h hs
 | pack s=>exact Fg.loc hsz h hs
 | mem k L=>obtain⟨us,hu⟩:=h;exact⟨us,hu.loc hsz hs⟩
 | Bl L=>
  obtain⟨us,Fm,h1,h2⟩:=h;exact⟨us,Fm,h1.grow hsz,fun j M s hM hj=>Fg.loc hsz (h2 j M s hM hj) fun x hx=>hs x ((h1.own x).2 ⟨j,s,hj,hx⟩)⟩
theorem GB.mono {ν ν':Ae} (hle:ν.le ν') {a:Ct} {T:Bc} {F:Nat->Prop} {W:World} (h:GB ν a T F W):GB ν' a T F W:=by
 cases a with
 | eg t e l=>exact h
 | pack s=>exact Fg.mono hle h
 | mem k L=>exact h
 | Bl L=>obtain⟨us,Fm,h1,h2⟩:=h;exact⟨us,Fm,h1,fun j M s hM hj=>Fg.mono hle (h2 j M s hM hj)⟩
theorem GB.JA:∀{ν:Ae} a T F W,GB ν a T F W->(¬(AP.abs a false).void T->F T.c)/\∀i,F i->i < W.heap.size:=by
 intro ν a T F W h;cases a with
 | eg t e l=>exact⟨fun _=>(GH.JA h).1,(GH.JA h).2⟩
 | pack s=>exact⟨fun _=>(Fg.JA h).1,(Fg.JA h).2⟩
 | mem k L=>obtain⟨us,hu⟩:=h;exact⟨fun hv=>absurd trivial hv,hu.JA⟩
 | Bl L=>
  obtain⟨us,Fm,h1,h2⟩:=h;refine⟨fun hv=>absurd trivial hv,fun x hx=>?_⟩;obtain⟨j,s,g1,g2⟩:=(h1.own x).1 hx;obtain⟨M,hM⟩:=h1.at g1;exact(Fg.JA (h2 j M s hM g1)).2 x g2
def Ct.ext:Ct->AW
 | .eg _ _ _=>[]
 | .pack s=>C3 s
 | .mem _ _=>[]
 | .Bl _=>[]
def wN:AW->Bool
 | []=>true
 | _=>false
def Ct.HT (a:Ct):Bool:=wN a.ext
theorem Ct.RD {a:Ct} (h:a.HT=true):a.ext=[]:=by
 unfold Ct.HT at h;cases he:a.ext with
 | nil=>rfl
 | cons x l=>rw[he]at h;cases h
theorem GB.closed {ν:Ae} (ν':Ae) {a:Ct} {T:Bc} {F:Nat->Prop} {W:World} (h:GB ν a T F W) (he:a.ext=[]):GB ν' a T F W:=by
 cases a with
 | eg t e l=>exact h
 | pack s=>exact Fg.closed ν' h he
 | mem k L=>exact h
 | Bl L=>obtain⟨us,Fm,h1,h2⟩:=h;exact⟨us,Fm,h1,fun j M s hM hj=>Fg.closed ν' (h2 j M s hM hj) (h1.ext j s hj)⟩
structure Env where
 K:Nat->Prop
 jK:Ae
structure pj (base:Env) (μ:Ae) (H:AA) (W:World) (φ:Nat->Nat->Prop):Prop where
 rep:∀b a ro T,H.get b=some (.abs a ro)->μ b=some T->GB μ a T (φ b) W/\(ro=false->∀i,φ b i->¬base.K i)
 DG:∀b a ro T,H.get b=some (.abs a ro)->μ b=some T->∀b2 o2 T2,H.get b2=some o2->μ b2=some T2->b2≠b->(¬o2.void T2->¬φ b T2.c)/\(o2.isAbs=true->∀i,φ b i->¬φ b2 i)
theorem AA.Bb {H:AA} {b i:Nat} {o:AP} (e:(H.del b).get i=some o):i≠b/\H.get i=some o:=by
 rw[AA.BU]at e
 by_cases hi:i=b
 ·rw[MB hi]at e;cases e
 ·rw[JT hi]at e;exact⟨hi,e⟩
structure AJ (base:Env) (W0:World) (μ:Ae) (H:AA) (W:World):Prop where
 obj:∀b o,H.get b=some o->∀T,μ b=some T->∃o',W.heap[T.c]? = some o'/\CZ μ T o o'
 own:∀b o,H.get b=some o->o.ro=false->∀T,μ b=some T->¬o.void T->¬base.K T.c
 inj:∀b1 b2 o1 o2,H.get b1=some o1->H.get b2=some o2->∀T1 T2,μ b1=some T1->μ b2=some T2->¬o1.void T1->¬o2.void T2->T1.c=T2.c->(o1.ro=false∨o2.ro=false)->b1=b2
 fresh:∀b,H.next<=b->H.get b=none/\μ b=none
 bound:∀b T,μ b=some T->T.c < W.heap.size
 size:∀i,base.K i->i < W.heap.size
 below:∀i,base.K i->W.heap[i]? = W0.heap[i]?
 out:W.output=W0.output
 os:W.os=W0.os
 abs:∃φ,pj base μ H W φ
 le:base.jK.le μ
 grow:W0.heap.size<=W.heap.size
structure Ap (μ:Ae) (H:AA) (μ':Ae) (H':AA):Prop where
 le:μ.le μ'
 next:H.next<=H'.next
 ghost:∀b,b < H.next->μ b=none->μ' b=none/\H'.get b=H.get b
theorem Ap.refl (μ:Ae) (H:AA):Ap μ H μ H:=⟨Ae.le_refl _,GO _,fun _ _ h=>⟨h,rfl⟩⟩
theorem Ap.trans {μ ν ξ:Ae} {H I J:AA} (h:Ap μ H ν I) (h':Ap ν I ξ J):Ap μ H ξ J:=
 ⟨Ae.le_trans h.le h'.le,wQ h.next h'.next,fun b hb hm=>
  have h1:=h.ghost b hb hm;have h2:=h'.ghost b (nI hb h.next) h1.1
  ⟨h2.1,h2.2.trans h1.2⟩⟩
section
variable {base:Env} {W0:World} {μ:Ae} {H:AA} {W:World}
theorem AJ.lt (h:AJ base W0 μ H W) {b:Nat} {o:AP} (hb:H.get b=some o):b < H.next:=by
 rcases U1 b H.next with h' | h'
 ·exact h'
 ·rw[(h.fresh b h').1]at hb;cases hb
theorem AJ.MO (h:AJ base W0 μ H W) {b:Nat} {x:Bc} (hb:μ b=some x):b < H.next:=by
 rcases U1 b H.next with h' | h'
 ·exact h'
 ·rw[(h.fresh b h').2]at hb;cases hb
theorem AJ.drawn (h:AJ base W0 μ H W) (n:Nat):AJ base W0 μ H { W with drawn:=n }:=
 ⟨h.obj,h.own,h.inj,h.fresh,h.bound,h.size,h.below,h.out,h.os,let ⟨φ,q⟩:=h.abs;⟨φ,fun b a ro T h1 h2=>let ⟨r1,r2⟩:=q.rep b a ro T h1 h2;⟨GB.loc _ _ _ W _ (GO _) r1 (fun _ _=>rfl),r2⟩,q.DG⟩,h.le,h.grow⟩
theorem AJ.update (h:AJ base W0 μ H W) {b:Nat} {T:Bc} {o o1:AP} (hb:H.get b=some o) (hro:o.ro=false) (hm:μ b=some T) {W':World} {o1':Obj}
 (hsz:W'.heap.size=W.heap.size) (hother:∀i,i≠T.c->W'.heap[i]? = W.heap[i]?) (hc:W'.heap[T.c]? = some o1') (ho:CZ μ T o1 o1') (hout:W'.output=W.output) (hos:W'.os=W.os)
 (hna1:o1.isAbs=false:=by rfl) (hsol:¬o.void T:=by exact id):
 AJ base W0 μ (H.put b o1) W'/\Ap μ H μ (H.put b o1):=by
 have hbase:=h.own b o hb hro T hm hsol;refine⟨⟨?_,?_,?_,?_,?_,?_,?_,?_,?_,?_,h.le,by rw[hsz];exact h.grow⟩,⟨Ae.le_refl _,GO _,?_⟩⟩
 ·intro b' o' hb' T' hm';rw[AA.AU]at hb'
  by_cases e:b'=b
  ·subst e;rw[MB rfl]at hb';cases hb'
   rw[hm]at hm';cases hm'
   exact⟨o1',hc,ho⟩
  ·rw[JT e]at hb';exact CZ.Av (h.obj b' o' hb' T' hm') (by rw[hsz];exact GO _) fun hv=>hother _ fun e'=>e (h.inj b' b _ _ hb' hb T' T hm' hm hv hsol e' (.inr hro))
 ·intro b' o' hb' hro' T' hm' hv;rw[AA.AU]at hb'
  by_cases e:b'=b
  ·subst e;rw[hm]at hm';cases hm';exact hbase
  ·rw[JT e]at hb';exact h.own b' o' hb' hro' T' hm' hv
 ·intro b1 b2 p1 p2 h1 h2 T1 T2 m1 m2 v1 v2 hcc hrr;rw[AA.AU]at h1 h2
  by_cases e1:b1=b<;>by_cases e2:b2=b
  ·rw[e1,e2]
  ·subst e1;rw[JT e2]at h2;rw[hm]at m1;cases m1;exact h.inj b1 b2 _ _ hb h2 _ T2 hm m2 hsol v2 hcc (.inl hro)
  ·subst e2;rw[JT e1]at h1;rw[hm]at m2;cases m2;exact h.inj b1 b2 _ _ h1 hb T1 _ m1 hm v1 hsol hcc (.inr hro)
  ·rw[JT e1]at h1;rw[JT e2]at h2;exact h.inj b1 b2 _ _ h1 h2 T1 T2 m1 m2 v1 v2 hcc hrr
 ·intro b' hb';have hlt:=h.lt hb;have hb2:H.next<=b':=hb';refine⟨?_,(h.fresh b' hb2).2⟩;rw[AA.AU,JT (by omega)];exact(h.fresh b' hb2).1
 ·intro b' T' hm';rw[hsz];exact h.bound b' T' hm'
 ·intro i hi;rw[hsz];exact h.size i hi
 ·intro i hi;rw[hother i (by rintro rfl;exact hbase hi)];exact h.below i hi
 ·rw[hout];exact h.out
 ·rw[hos];exact h.os
 ·obtain⟨φ,q⟩:=h.abs;have key:∀b' o',(H.put b o1).get b'=some o'->(b'=b/\o'=o1)∨(b'≠b/\H.get b'=some o'):=by
   intro b' o' hb';rw[AA.AU]at hb'
   by_cases e:b'=b
   ·rw[MB e]at hb';cases hb';exact .inl ⟨e,rfl⟩
   ·rw[JT e]at hb';exact .inr ⟨e,hb'⟩
  refine⟨φ,?_,?_⟩
  ·intro b' a ro T' hb' hm';rcases key b' _ hb' with⟨_,e⟩ | ⟨hne,hb2⟩
   ·rw[<-e]at hna1;cases hna1
   ·obtain⟨r1,r2⟩:=q.rep b' a ro T' hb2 hm';have hfar:=(q.DG b' a ro T' hb2 hm' b o T hb hm (gi hne)).1 hsol;exact⟨GB.loc _ _ _ _ _ (by rw[hsz];exact GO _) r1 (fun i hi=>hother i (by rintro rfl;exact hfar hi)),r2⟩
  ·intro b' a ro T' hb' hm' b2 o2 T2 hb2 hm2 hne2;rcases key b' _ hb' with⟨_,e⟩ | ⟨hne,hb3⟩
   ·rw[<-e]at hna1;cases hna1
   ·rcases key b2 _ hb2 with⟨rfl,rfl⟩ | ⟨hne3,hb4⟩
    ·rw[hm]at hm2;cases hm2
     exact⟨fun _=>(q.DG b' a ro T' hb3 hm' b2 o _ hb hm hne2).1 hsol,fun e=>by rw[hna1]at e;cases e⟩
    ·exact q.DG b' a ro T' hb3 hm' b2 o2 T2 hb4 hm2 hne2
 ·intro b' hb' hm';refine⟨hm',?_⟩;rw[AA.AU,JT];rintro rfl;rw[hm]at hm';cases hm'
theorem AJ.K8 (h:AJ base W0 μ H W) {T:Bc} {o:AP} {o':Obj} {W':World} (hsz:W.heap.size<=W'.heap.size) (hother:∀i,i < W.heap.size->i≠T.c->W'.heap[i]? = W.heap[i]?)
 (hne:∀b p T',H.get b=some p->μ b=some T'->¬p.void T'->T'.c≠T.c) (hφ:∃φ,pj base μ H W φ/\∀b a ro,H.get b=some (.abs a ro)->(∃T',μ b=some T')->¬φ b T.c)
 (hT:W'.heap[T.c]? = some o') (hbase:¬base.K T.c) (ho:CZ μ T o o') (hout:W'.output=W.output) (hos:W'.os=W.os) (hna:o.isAbs=false:=by rfl):
 AJ base W0 (μ.ext H.next T) (H.alloc o) W'/\Ap μ H (μ.ext H.next T) (H.alloc o):=by
 have hn:=(h.fresh H.next (GO _)).2;have hle:=Ae.Cc T hn;have hlt:T.c < W'.heap.size:=by
  rcases U1 T.c W'.heap.size with hh | hh
  ·exact hh
  ·rw[ud hh]at hT;cases hT
 have key:∀i X,(μ.ext H.next T) i=some X->(i=H.next/\X=T)∨(i≠H.next/\μ i=some X):=by
  intro i X e
  by_cases hi:i=H.next
  ·subst hi;rw[Ae.Af]at e;cases e;exact .inl ⟨rfl,rfl⟩
  ·rw[Ae.BI _ _ hi]at e;exact .inr ⟨hi,e⟩
 refine⟨⟨?_,?_,?_,?_,?_,?_,?_,?_,?_,?_,Ae.le_trans h.le hle,wQ h.grow hsz⟩,⟨hle,by simp[AA.alloc],?_⟩⟩
 ·intro b p hb X hm;rcases key b X hm with⟨rfl,rfl⟩ | ⟨hne',hm'⟩
  ·rw[AA.AM,MB rfl]at hb;cases hb
   exact⟨o',hT,ho.mono hle⟩
  ·rw[AA.AM,JT hne']at hb;obtain⟨o2,h2,h3⟩:=CZ.Av (W':=W') (h.obj b p hb X hm') hsz fun hv=>hother _ (h.bound b X hm') (hne b p X hb hm' hv)
   exact⟨o2,h2,h3.mono hle⟩
 ·intro b p hb hr X hm hv;rcases key b X hm with⟨rfl,rfl⟩ | ⟨hne',hm'⟩
  ·exact hbase
  ·rw[AA.AM,JT hne']at hb;exact h.own b p hb hr X hm' hv
 ·intro b1 b2 p1 p2 h1 h2 T1 T2 m1 m2 v1 v2 hcc hrr;rcases key b1 T1 m1 with⟨e1,rfl⟩ | ⟨n1,m1'⟩<;>rcases key b2 T2 m2 with⟨e2,e3⟩ | ⟨n2,m2'⟩
  ·rw[e1,e2]
  ·rw[AA.AM,JT n2]at h2;exact absurd hcc.symm (hne b2 _ T2 h2 m2' v2)
  ·rw[AA.AM,JT n1]at h1;subst e3;exact absurd hcc (hne b1 _ T1 h1 m1' v1)
  ·rw[AA.AM,JT n1]at h1;rw[AA.AM,JT n2]at h2
   exact h.inj b1 b2 _ _ h1 h2 T1 T2 m1' m2' v1 v2 hcc hrr
 ·intro b hb;have hb':H.next+1<=b:=hb;refine⟨?_,?_⟩
  ·rw[AA.AM,JT (by omega)];exact(h.fresh b (by omega)).1
  ·rw[Ae.BI _ _ (by omega)];exact(h.fresh b (by omega)).2
 ·intro b X hm;rcases key b X hm with⟨rfl,rfl⟩ | ⟨hne',hm'⟩
  ·exact hlt
  ·have:=h.bound b X hm';omega
 ·intro i hi;have:=h.size i hi;omega
 ·intro i hi;rw[hother i (h.size i hi) (by rintro rfl;exact hbase hi)];exact h.below i hi
 ·rw[hout];exact h.out
 ·rw[hos];exact h.os
 ·obtain⟨φ,q,hq⟩:=hφ;have key2:∀b' p,(H.alloc o).get b'=some p->(b'=H.next/\p=o)∨(b'≠H.next/\H.get b'=some p):=by
   intro b' p hb';rw[AA.AM]at hb'
   by_cases e:b'=H.next
   ·rw[MB e]at hb';cases hb';exact .inl ⟨e,rfl⟩
   ·rw[JT e]at hb';exact .inr ⟨e,hb'⟩
  refine⟨φ,?_,?_⟩
  ·intro b' a ro T' hb' hm';rcases key2 b' _ hb' with⟨_,e⟩ | ⟨hne',hb2⟩
   ·rw[<-e]at hna;cases hna
   ·rw[Ae.BI _ _ hne']at hm';obtain⟨r1,r2⟩:=q.rep b' a ro T' hb2 hm';exact⟨(GB.loc _ _ _ _ _ hsz r1 (fun i hi=>hother i ((GB.JA _ _ _ _ r1).2 i hi) (by rintro rfl;exact hq b' a ro hb2 ⟨T',hm'⟩ hi))).mono hle,r2⟩
  ·intro b' a ro T' hb' hm' b2 o2 T2 hb2 hm2 hne2;rcases key2 b' _ hb' with⟨_,e⟩ | ⟨hne',hb3⟩
   ·rw[<-e]at hna;cases hna
   ·rw[Ae.BI _ _ hne']at hm';rcases key2 b2 _ hb2 with⟨rfl,rfl⟩ | ⟨hne3,hb4⟩
    ·rw[Ae.Af]at hm2;cases hm2
     exact⟨fun _=>hq b' a ro hb3 ⟨T',hm'⟩,fun e=>by rw[hna]at e;cases e⟩
    ·rw[Ae.BI _ _ hne3]at hm2;exact q.DG b' a ro T' hb3 hm' b2 o2 T2 hb4 hm2 hne2
 ·intro b hb hm;have hb':b < H.next:=hb;refine⟨?_,?_⟩
  ·rw[Ae.BI _ _ (by omega)];exact hm
  ·rw[AA.AM,JT (by omega)]
theorem AJ.alloc (h:AJ base W0 μ H W) {T:Bc} {o:AP} {o':Obj} (hT:T.c=W.heap.size) (ho:CZ μ T o o') (hna:o.isAbs=false:=by rfl):
 AJ base W0 (μ.ext H.next T) (H.alloc o) (W.alloc o')/\Ap μ H (μ.ext H.next T) (H.alloc o):=by
 have GK:∀i,i < W.heap.size->(W.alloc o').heap[i]? = W.heap[i]?:=by
  intro i hi;show(W.heap.push o')[i]? = W.heap[i]?;rw[AAg,JT (by omega)]
 obtain⟨φ,q⟩:=h.abs;refine h.K8 (by simp) (fun i hi _=>GK i hi) (fun b p T' hb hm=>by have:=h.bound b T' hm;omega) ⟨φ,q,fun b a ro hb ⟨T',hm⟩ hc=>?_⟩ ?_ (fun hk=>by have:=h.size _ hk;omega) ho rfl rfl hna
 ·have:=(GB.JA _ _ _ _ (q.rep b a ro T' hb hm).1).2 _ hc;omega
 rw[hT];show(W.heap.push o')[W.heap.size]? = some o';simp
theorem AJ.del (h:AJ base W0 μ H W) {b:Nat} {T:Bc} (hm:μ b=some T):AJ base W0 μ (H.del b) W/\Ap μ H μ (H.del b):=by
 have key:∀i o,(H.del b).get i=some o->i≠b/\H.get i=some o:=by
  intro i o e;rw[AA.BU]at e
  by_cases hi:i=b
  ·rw[MB hi]at e;cases e
  ·rw[JT hi]at e;exact⟨hi,e⟩
 refine⟨⟨fun i o e=>h.obj i o (key i o e).2,fun i o e=>h.own i o (key i o e).2,fun b1 b2 o1 o2 h1 h2=>h.inj b1 b2 o1 o2 (key _ _ h1).2 (key _ _ h2).2,?_,h.bound,h.size,h.below,h.out,h.os,
  let ⟨φ,q⟩:=h.abs;⟨φ,fun b' a ro T' h1 h2=>q.rep b' a ro T' (key _ _ h1).2 h2,fun b' a ro T' h1 h2 b2 o2 T2 h3 h4 h5=>q.DG b' a ro T' (key _ _ h1).2 h2 b2 o2 T2 (key _ _ h3).2 h4 h5⟩,h.le,h.grow⟩,
  ⟨Ae.le_refl _,GO _,?_⟩⟩
 ·intro i hi;refine⟨?_,(h.fresh i hi).2⟩;rw[AA.BU]
  by_cases e:i=b
  ·rw[MB e]
  ·rw[JT e];exact(h.fresh i hi).1
 ·intro i hi hn;refine⟨hn,?_⟩;rw[AA.BU,JT];rintro rfl;rw[hm]at hn;cases hn
theorem AJ.cell (h:AJ base W0 μ H W) {b e i:Nat} {T:Bc} {cs:AL} {ro:Bool} {v:Value} (hb:H.get b=some (.cells cs e ro)) (hm:μ b=some T) (hv:cs[i]? = some v):
 ∃v',W.cell? ⟨T.c,T.d+i,none⟩=some v'/\AH μ v v':=by
 obtain⟨o',ho',hr⟩:=h.obj b _ hb T hm;cases hr with
 | cells _ _ _ a t lo hi he hc hr hf=>
  obtain⟨v',h1,h2⟩:=hc.get? hv;refine⟨v',?_,h2⟩;simp only[World.cell?,ho'];rw[mM]at h1;split at h1
  ·rw[mX]at h1;simpa using h1
  ·cases h1
theorem AJ.frozen (h:AJ base W0 μ H W) {b e i:Nat} {T:Bc} {cs:AL} {v:Value} (hb:H.get b=some (.cells cs e false)) (hm:μ b=some T) (hv:cs[i]? = some v):
 W.frozen? ⟨T.c,T.d+i,none⟩=false:=by
 obtain⟨v',hc',_⟩:=h.cell hb hm hv;obtain⟨o',ho',hr⟩:=h.obj b _ hb T hm;cases hr with
 | cells _ _ _ a t lo hi he hc hr hf=>
  simp only[World.cell?,ho']at hc';simp only[World.frozen?,ho'];have hlt:T.d+i < a.size:=by
   rcases U1 (T.d+i) a.size with hh | hh
   ·exact hh
   ·rw[ud hh]at hc';simp at hc'
  have:=hf rfl (T.d+i) (.inl hlt);simp only[wL,kV];omega
theorem AJ.row (h:AJ base W0 μ H W) {b e off:Nat} {T:Bc} {cs l:AL} {ro:Bool} (hb:H.get b=some (.cells cs e ro)) (hm:μ b=some T) (hl:(cs.drop off).take l.length=l) (P:Program):
 ∃l',Am μ l l'/\(loadCells ⟨T.c,T.d+off,none⟩ l.length).run P W= .ok l'.toArray W/\∀j v,l'[j]? = some v->W.cell? ⟨T.c,T.d+off+j,none⟩=some v:=by
 have key:∀(n:Nat) (l:AL),l.length=n->(∀j v,l[j]? = some v->cs[off+j]? = some v)->∃l',Am μ l l'/\∀j v,l'[j]? = some v->W.cell? ⟨T.c,T.d+off+j,none⟩=some v:=by
  intro n;induction n with
  | zero=>
   intro l hl _;obtain rfl:=Ss hl;exact⟨[],.nil,fun j v e=>by simp at e⟩
  | succ n ih=>
   intro l hl hj;obtain⟨l0,x,rfl⟩:∃l0 x,l=l0++[x]:=⟨l.dropLast,l.getLast (by intro e;subst e;simp at hl),(List.dropLast_concat_getLast _).symm⟩
   simp at hl;obtain⟨l',h1,h2⟩:=ih l0 hl fun j v e=>hj j v (by
    rw[jY (by have:=(List.getElem?_eq_some_iff.1 e).1;exact this)];exact e)
   obtain⟨x',h3,h4⟩:=h.cell hb hm (hj l0.length x (by simp));refine⟨l'++[x'],h1.append (.cons h4 .nil),fun j v e=>?_⟩;rcases U1 j l'.length with hlt | hge
   ·rw[jY hlt]at e;exact h2 j v e
   ·rw[lB hge]at e;have hz:j - l'.length=0:=by
     rcases ABr (j - l'.length)with e0 | e0
     ·exact e0
     ·rw[T6 (by simp;omega)]at e;cases e
    rw[hz]at e;simp at e;subst e
    have:j=l0.length:=by have:=h1.length;omega
    subst this;rw[jV];exact h3
 obtain⟨l',h1,h2⟩:=key l.length l rfl (fun j v e=>by
  rw[<-hl,mM]at e;split at e
  ·rwa [mX]at e
  ·cases e)
 refine⟨l',h1,?_,h2⟩;rw[h1.length];exact run_loadCells_list W _ l' fun j v e=>by
  have:=h2 j v e;have hadd:(⟨T.c,T.d+off,none⟩:Addr).add j=⟨T.c,T.d+off+j,none⟩:=by unfold Addr.add;split<;>simp_all
  rw[hadd];exact this
theorem SA (c:AL) (d n i:Nat) (v:Value) (hi:i < n):((c.set (d+i) v).drop d).take n=((c.drop d).take n).set i v:=by
 apply AAs
 intro j;rw[mM,mX,Q6,Q6,mM,mX]
 by_cases hj:j < n<;>by_cases e:i=j
 ·subst e;simp[hj]
  by_cases hs:d+i < c.length
  ·simp[hs];omega
  ·simp[hs];omega
 ·simp[hj,e]
 ·omega
 ·simp[hj,e]
theorem AJ.rv (h:AJ base W0 μ H W) {b e i:Nat} {T:Bc} {cs:AL} {v v':Value} (hb:H.get b=some (.cells cs e false)) (hm:μ b=some T) (hi:i < cs.length) (hv:AH μ v v'):
 AJ base W0 μ (H.put b (.cells (cs.set i v) e false)) (W.setCell ⟨T.c,T.d+i,none⟩ v')/\Ap μ H μ (H.put b (.cells (cs.set i v) e false)):=by
 obtain⟨o',ho',hr⟩:=h.obj b _ hb T hm;cases hr with
 | cells _ _ _ a t lo hi' he hc hr hf=>
  refine h.update (o1':= .cells (a.setIfInBounds (T.d+i) v') t (lo,hi')) hb rfl hm (by simp) (fun j hj=>?_) ?_ ?_ rfl rfl
  ·simp only[World.setCell,ABo];rw[JT (gi hj)]
  ·simp only[World.setCell,ABo,AAR,ho'];rfl
  ·refine .cells T _ _ false _ t lo hi' he ?_ (by simpa using hr) (fun _ j hj=>hf rfl j (by simpa using hj));have hlen:=hc.length;rw[SB,AAY,SA _ _ _ _ _ hi];exact hc.set i hv
theorem aH (H:AA) (b:Nat) (x y:AP):(H.put b x).put b y=H.put b y:=by
 unfold AA.put Tr.put;have:∀(p:Hj) (t:Tr AP),(t.Ga (some x) p).Ga (some y) p=t.Ga (some y) p:=by
  intro p;induction p with
  | e=>intro t;cases t<;>rfl
  | z p ih=>intro t;cases t with
   | leaf=>show Tr.node (((Tr.leaf).Ga (some x) p).Ga (some y) p) none .leaf=_;rw[ih];rfl
   | node l v r=>show Tr.node ((l.Ga (some x) p).Ga (some y) p) v r=_;rw[ih];rfl
  | o p ih=>intro t;cases t with
   | leaf=>show Tr.node .leaf none (((Tr.leaf).Ga (some x) p).Ga (some y) p)=_;rw[ih];rfl
   | node l v r=>show Tr.node l v ((r.Ga (some x) p).Ga (some y) p)=_;rw[ih];rfl
 simp[this]
def Bi (cs:AL) (i:Nat) (l:AL):AL:=cs.take i++(l++cs.drop (i+l.length))
theorem G4 (cs:AL) (i:Nat) (v:Value) (l:AL) (h:i+(l.length+1)<=cs.length):Bi cs i (v::l)=Bi (cs.set i v) (i+1) l:=by
 induction i generalizing cs with
 | zero=>
  cases cs with
  | nil=>simp at h
  | cons x cs=>simp[Bi,Nat.add_comm 1]
 | succ i ih=>
  cases cs with
  | nil=>simp at h
  | cons x cs=>
   have:=ih cs (by simp at h;omega);simp only[Bi,List.set_cons_succ,ABF,bT]at this ⊢;rw[show i+1+(l.length+1)=(i+(l.length+1))+1 by omega,show i+1+1+l.length=(i+1+l.length)+1 by omega,ABE,ABE];exact congrArg (List.cons x) this
theorem Jh (cs:AL) (i:Nat):Bi cs i []=cs:=by simp[Bi]
def Bh:Value->Bool
 | .agg _ | .tuple _ | .chan _=>false
 | _=>true
theorem Jk {v v':Value} (h:AH μ v v') (ho:Bh v=true):v'.oneCell'=true:=by
 cases h<;>first | rfl | (simp[Bh,Bv]at ho)
theorem AJ.UF (P:Program) {b e:Nat} {T:Bc} (hm:μ b=some T):∀(l l':AL) (H:AA) (W:World) (cs:AL) (i k:Nat),AJ base W0 μ H W->H.get b=some (.cells cs e false)->Am μ l l'->l.all Bh=true->
 i+k+l.length<=cs.length->∃W',(storeCells ⟨T.c,T.d+i,none⟩ l' k).run P W= .ok () W'/\AJ base W0 μ (H.put b (.cells (Bi cs (i+k) l) e false)) W'/\Ap μ H μ (H.put b (.cells (Bi cs (i+k) l) e false)):=by
 intro l;induction l with
 | nil=>
  intro l' H W cs i k h hb hl _ _;cases hl
  refine⟨W,rfl,?_⟩;rw[Jh];obtain⟨o',ho',hr⟩:=h.obj b _ hb T hm;exact h.update hb rfl hm rfl (fun _ _=>rfl) ho' hr rfl rfl
 | cons v l ih=>
  intro l' H W cs i k h hb hl hok hlen;cases hl with
  | @cons _ v' _ l' hv ht=>
   simp only[lf,Dg]at hok;simp only[bT]at hlen;have hadd:(⟨T.c,T.d+i,none⟩:Addr).add k=⟨T.c,T.d+(i+k),none⟩:=by unfold Addr.add;split<;>simp_all;omega
   have hget:cs[i+k]? = some (cs[i+k]'(by omega)):=Jj (by omega);obtain⟨u,hu,_⟩:=h.cell hb hm hget;have hfz:=h.frozen hb hm hget;have hst:(store ((⟨T.c,T.d+i,none⟩:Addr).add k) v').run P W= .ok () (W.setCell ⟨T.c,T.d+(i+k),none⟩ v'):=by
    rw[hadd,run_store P W _ v' _ (Jk hv hok.1)];simp[hu,hfz]
   obtain⟨h1,e1⟩:=h.rv (v:=v) hb hm (i:=i+k) (by omega) hv;obtain⟨W',hw,h2,e2⟩:=ih l' _ _ (cs.set (i+k) v) i (k+1) h1 (by rw[AA.AU,MB rfl]) ht hok.2 (by simp;omega);refine⟨W',?_,?_,?_⟩
   ·simp only[storeCells,Sem.run_bind,hst,Result.andThen_ok,hw]
   ·rw[aH]at h2;rw[G4 _ _ _ _ (by omega)];exact h2
   ·have:=e1.trans e2;rw[aH]at this;rw[G4 _ _ _ _ (by omega)];exact this
end
abbrev Ih:=Value->AA->Prop
def Mv {α:Type} (P:Program) (s:Sem α):Option α:=
 Sem.rec (motive:=fun _=>Option α) (fun a=>some a) (fun _ _ _ _=>none) (fun _ _ _ _ _=>none) (fun _ _ _=>none) (fun _ _ _=>none) (fun _ _ _ _=>none) (fun _ _ _=>none)
  (fun _ _ _=>none) (fun _ _ _ _=>none) (fun _ _ _=>none) (fun _ _ _=>none) (fun _ ih=>ih P) (fun _ _ ih=>ih) (fun _=>none) s
theorem Of {α:Type} {P:Program} {s:Sem α} {a:α} (h:Mv P s=some a) (w:World):s.run P w= .ok a w:=by
 induction s with
 | pure b=>simp[Mv]at h;subst h;rfl
 | program k ih=>exact ih P h
 | mark m k ih=>exact ih h
 | _=>simp[Mv]at h
def Cu:Nat->Value->Bool
 | 0,_=>false
 | n+1,v=>match v with
  | .bool _ | .int _ _ | .float _ _ | .string _ | .pointer none | .slice none _ _ | .map none | .nilFunc | .nilIface=>true
  | .iface _ v=>Cu n v
  | .agg cs | .tuple cs=>cs.toList.all (Cu n)
  | _=>false
theorem ja {μ:Ae}:∀(n:Nat) (v v':Value),Cu n v=true->AH μ v v'->v'=v:=by
 intro n;induction n with
 | zero=>intro v v' h;cases h
 | succ n ih=>
  have hl:∀(l l':AL),l.all (Cu n)=true->Am μ l l'->l'=l:=by
   intro l;induction l with
   | nil=>intro l' _ h;cases h;rfl
   | cons a l ihl=>
    intro l' h hr;cases hr with
    | cons hv ht=>
     simp only[lf,Dg]at h;rw[ih _ _ h.1 hv,ihl _ h.2 ht]
  intro v v' h hr;cases hr with
  | Bv=>simp[Cu,Bv]at h
  | iface t a a' hv=>simp only[Cu]at h;rw[ih _ _ h hv]
  | agg xs xs' hx ex=>
   obtain⟨ys,he,hl'⟩:=AH.Ce.1 (.agg xs xs' hx ex);cases he
   simp only[Cu]at h;have:=hl _ _ h hl';rw[Array.toList_inj.1 this]
  | tuple xs xs' hx ex=>
   obtain⟨ys,he,hl'⟩:=AH.CE.1 (.tuple xs xs' hx ex);cases he
   simp only[Cu]at h;have:=hl _ _ h hl';rw[Array.toList_inj.1 this]
  | bool | int | float | string | Hw | CN | IC | nilFunc | nilIface=>rfl
  | ptr | slice | HS | HY | Bk | DW | Cl | F9 | map | func=>simp[Cu]at h
theorem YK (μ:Ae):∀(n:Nat) (v:Value),Cu n v=true->AH μ v v:=by
 intro n;induction n with
 | zero=>intro v h;cases h
 | succ n ih=>
  have hl:∀(l:AL),l.all (Cu n)=true->Am μ l l:=by
   intro l;induction l with
   | nil=>intro _;exact .nil
   | cons a l ihl=>
    intro h;simp only[lf,Dg]at h;exact .cons (ih _ h.1) (ihl h.2)
  intro v h;unfold Cu at h;split at h
  ·exact .bool _
  ·exact .int _ _
  ·exact .float _ _
  ·exact .string _
  ·exact .Hw
  ·exact .CN _ _
  ·exact .IC
  ·exact .nilFunc
  ·exact .nilIface
  ·exact .iface _ _ _ (ih _ h)
  ·exact AH.Ce.2 ⟨_,rfl,hl _ h⟩
  ·exact AH.CE.2 ⟨_,rfl,hl _ h⟩
  ·cases h
def flat (v:Value):Bool:=Cu 8 v
theorem LN {μ:Ae} {v v':Value} (h:flat v=true) (hr:AH μ v v'):v'=v:=ja 8 v v' h hr
theorem D5 {μ:Ae} {v:Value} (h:flat v=true):AH μ v v:=YK μ 8 v h
def JA (x:Value) (y:Nat):Option Nat:=
 match x with
 | .int _ (.ofNat k)=>bif Nat.ble k y then some k else none
 | _=>none
def Ev (len cap:Nat) (low high max:C1):Option (Nat × Nat × Nat):=
 (match max with | some v=>JA v cap | none=>some cap).bind fun m=>
 (match high,max with | some v,_=>JA v m | none,none=>some len | none,some _=>none).bind fun h=>
 (match low with | some v=>JA v h | none=>some 0).bind fun l=>some (l,h,m)
def KL (place:Nat->Option (Nat × Nat)) (cells:AL):List (Nat × Value)->Option (AL)
 | []=>some cells
 | (i,v)::rest=>
  match place i with
  | none=>none
  | some (off,size)=>
   let l:=v.cells.toList
   bif Nat.beq l.length size&&Nat.ble (off+l.length) cells.length then KL place (Bi cells off l) rest else none
def IX (P:Program) (t:TypeId):Option (AL):=
 match P.info? t with
 | some i=>match i.zero with
  | some z=>bif flat z then some z.cells.toList else none
  | none=>none
 | none=>none
def Dx (P:Program) (t:TypeId):Option Nat:=(P.info? t).map (·.size)
def Nc (P:Program) (fields:Array Field):Option (List (Nat × Nat)):=
 fields.toList.mapM (fun f=>(P.info? f.type).map fun i=>(f.offset,i.size))
def Y7 (P:Program) (t:TypeId) (parts:List (Nat × Value)):C1:=
 match IX P t,P.underlying t with
 | some z,some (.array _ e)=>match Dx P e with
  | some n=>(KL (fun i=>some (i * n,n)) z parts).map fun l=> .agg ⟨l⟩
  | none=>none
 | some z,some (.struct fields)=>match Nc P fields with
  | some pl=>(KL (fun i=>pl[i]?) z parts).map fun l=> .agg ⟨l⟩
  | none=>none
 | _,_=>none
def Dn (z:AL) (n:Nat):AL:=(List.range n).map fun i=>z.getD (i % z.length) default
def Gz (P:Program) (t:TypeId) (len:Nat) (parts:List (Nat × Value)) (H:AA):Option (Value × AA):=
 match P.underlying t with
 | some (.slice e)=>match Dx P e,IX P e with
  | some n,some z=>
   bif Nat.beq (len * n) 0 then
    match parts with
    | []=>some (.slice (some ⟨H.next,0,none⟩) len len,H.alloc (.cells [] n false))
    | _=>none
   else bif Nat.ble (len * n) 16777216 then
    (KL (fun i=>some (i * n,n)) (Dn z (len * n)) parts).map fun l=>(.slice (some ⟨H.next,0,none⟩) len len,H.alloc (.cells l n false))
   else none
  | _,_=>none
 | _=>none
def E4:TypeDesc->Bool
 | .struct _ | .array _ _=>true
 | _=>false
def Mf (P:Program) (t:TypeId) (a:Value) (H:AA):C1:=
 match a with
 | .pointer (some ⟨b,off,none⟩)=>
  match H.get b with
  | some (.cells cs _ _)=>
   match P.underlying t,Dx P t with
   | some d,some n=>
    bif E4 d then
     let l:=(cs.drop off).take n
     bif Nat.beq l.length n then some (.agg ⟨l⟩)else none
    else cs[off]?
   | _,_=>none
  | _=>none
 | _=>none
def Qf (P:Program) (t:TypeId) (a x:Value) (H:AA):Option AA:=
 match a with
 | .pointer (some ⟨b,off,none⟩)=>
  match H.get b with
  | some (.cells cs e false)=>
   match Dx P t with
   | some n=>
    let l:=x.cells.toList
    bif Nat.beq l.length n&&l.all Bh&&Nat.ble (off+l.length) cs.length then some (H.put b (.cells (Bi cs off l) e false))else none
   | _=>none
  | _=>none
 | _=>none
section
variable {P:Program} {base:Env} {W0:World} {μ:Ae} {H:AA} {W:World}
theorem Nl {t:TypeId} {n:Nat} (h:Dx P t=some n):∃i,P.info? t=some i/\i.size=n:=by
 unfold Dx at h;cases hi:P.info? t with
 | none=>simp[hi]at h
 | some i=>simp[hi]at h;exact⟨i,rfl,h⟩
theorem Bg {t:TypeId} {n:Nat} (h:Dx P t=some n) (w:World):(sizeOf t).run P w= .ok n w:=by
 obtain⟨i,hi,rfl⟩:=Nl h;simp[sizeOf,typeInfo,hi]
theorem HB {t:TypeId} {l:AL} (h:IX P t=some l):∃i z,P.info? t=some i/\i.zero=some z/\flat z=true/\z.cells.toList=l:=by
 unfold IX at h;cases hi:P.info? t with
 | none=>simp[hi]at h
 | some i=>
  cases hz:i.zero with
  | none=>simp[hi,hz]at h
  | some z=>
   simp only[hi,hz]at h;cases hf:flat z<;>simp[hf]at h
   exact⟨i,z,rfl,hz,hf,h⟩
theorem Hr {t:TypeId} {l:AL} (h:IX P t=some l) (w:World):∃z,(zeroValue t).run P w= .ok z w/\flat z=true/\z.cells.toList=l:=by
 obtain⟨i,z,hi,hz,hf,hl⟩:=HB h;exact⟨z,by simp[zeroValue,typeInfo,hi,hz],hf,hl⟩
theorem I2 {v v':Value} (h:AH μ v v') (hok:∀c,v≠ .chan c):Am μ v.cells.toList v'.cells.toList:=by
 cases h with
 | Bv v=>exact absurd rfl (hok _)
 | agg xs xs' hx ex=>
  obtain⟨ys,he,hl⟩:=AH.Ce.1 (.agg xs xs' hx ex);cases he;exact hl
 | bool | int | float | string | Hw | CN | IC | nilFunc | nilIface=>first | exact .cons (.bool _) .nil | exact .cons (.int _ _) .nil | exact .cons (.float _ _) .nil | exact .cons (.string _) .nil | exact .cons .Hw .nil | exact .cons (.CN _ _) .nil | exact .cons .IC .nil | exact .cons .nilFunc .nil | exact .cons .nilIface .nil
 | ptr b o T h=>exact .cons (.ptr b o T h) .nil
 | slice b o l k k' o' T h hc ho=>exact .cons (.slice b o l k k' o' T h hc ho) .nil
 | HS b o i T h ho=>exact .cons (.HS b o i T h ho) .nil
 | HY b o j T M h hm ho=>exact .cons (.HY b o j T M h hm ho) .nil
 | Bk b i l k k' o' T h hc ho hr=>exact .cons (.Bk b i l k k' o' T h hc ho hr) .nil
 | DW b i k T a h hc=>exact .cons (.DW b i k T a h hc) .nil
 | Cl b j l k k' o' T M h hm hc ho hr=>exact .cons (.Cl b j l k k' o' T M h hm hc ho hr) .nil
 | F9 b j k T a h hc=>exact .cons (.F9 b j k T a h hc) .nil
 | map b T h=>exact .cons (.map b T h) .nil
 | func fn fn' xs xs' ys ys' hf hx ex hy ey=>exact .cons (.func fn fn' xs xs' ys ys' hf hx ex hy ey) .nil
 | iface t v v' h=>exact .cons (.iface t v v' h) .nil
 | tuple xs xs' hx ex=>exact .cons (.tuple xs xs' hx ex) .nil
theorem IE {z:Value} (h:flat z=true):Am μ z.cells.toList z.cells.toList:=
 I2 (D5 h) (by rintro c rfl;simp[flat,Cu]at h)
theorem Jp {t:TypeId} {d:TypeDesc} (h:P.underlying t=some d) (w:World):(isAgg t).run P w= .ok (E4 d) w:=by
 cases d<;>simp[isAgg,run_underlying h,E4]
theorem Q7 (h:AJ base W0 μ H W) {t:TypeId} {a a' v:Value} (ha:AH μ a a') (hi:Mf P t a H=some v):
 ∃v',(Instr.loadAt t a').run P W= .ok v' W/\AH μ v v':=by
 unfold Mf at hi;split at hi
 ·rename_i b off;cases ha with
  | ptr _ _ T hm=>
   split at hi
   ·rename_i cs e ro hb;split at hi
    ·rename_i dd n hd hn;simp only[Instr.loadAt,Instr.sureAddr,Sem.run_bind,Sem.run_pure,Result.andThen_ok,loadVar,Jp hd];cases hagg:E4 dd
     ·simp only[hagg,EB]at hi;obtain⟨v',h1,h2⟩:=h.cell hb hm hi;exact⟨v',by simp[h1],h2⟩
     ·simp only[hagg,C8]at hi;cases hl:Nat.beq ((cs.drop off).take n).length n
      ·rw[hl]at hi;cases hi
      ·simp only[hl,C8,C5]at hi;subst hi;have hlen:=DN hl;obtain⟨l',r1,r2,_⟩:=h.row hb hm (off:=off) (l:=(cs.drop off).take n) (by rw[hlen]) P;rw[hlen]at r2;refine⟨.agg l'.toArray,?_,AH.Ce.2 ⟨_,rfl,by simpa using r1⟩⟩;simp[Bg hn,r2]
    ·cases hi
   ·cases hi
 ·cases hi
theorem TU (h:AJ base W0 μ H W) {t:TypeId} {a a' x x':Value} {H':AA} (ha:AH μ a a') (hx:AH μ x x') (hi:Qf P t a x H=some H'):
 ∃W',(Instr.storeAt t a' x').run P W= .ok () W'/\AJ base W0 μ H' W'/\Ap μ H μ H':=by
 unfold Qf at hi;split at hi
 ·rename_i b off;cases ha with
  | ptr _ _ T hm=>
   split at hi
   ·rename_i cs e hb;split at hi
    ·rename_i n hn;cases hc:(Nat.beq x.cells.toList.length n&&x.cells.toList.all Bh&&Nat.ble (off+x.cells.toList.length) cs.length)
     ·simp only[hc,EB]at hi;cases hi
     ·simp only[hc,C8,C5]at hi;subst hi;simp only[Dg]at hc;obtain⟨⟨h1,h2⟩,h3⟩:=hc;have hlen:=DN h1;have hle:=BE h3;have hr:=I2 hx (by
       rintro k rfl;simp[Value.cells,Bh]at h2)
      obtain⟨W',r1,r2,r3⟩:=AJ.UF P hm _ _ H W cs off 0 h hb hr h2 (by simpa using hle);refine⟨W',?_,r2,r3⟩;have hsz:x'.cells.size=n:=by
       have:=hr.length;rw[hlen]at this;simpa using this.symm
      simp only[Instr.storeAt,Instr.sureAddr,Sem.run_bind,Sem.run_pure,Result.andThen_ok,storeVar,Bg hn];simp only[hsz,ne_eq,not_true_eq_false,ABC];exact r1
    ·cases hi
   ·cases hi
 ·cases hi
inductive ZI (μ:Ae):List (Nat × Value)->List (Nat × Value)->Prop where
 | nil:ZI μ [] []
 | cons {i:Nat} {v v':Value} {l l':List (Nat × Value)} (h:AH μ v v') (hc:∀c,v≠ .chan c) (t:ZI μ l l'):ZI μ ((i,v)::l) ((i,v')::l')
theorem bc (vs:AL):∀(off k:Nat) (cells:BR),off+k+vs.length<=cells.size->
 ((vs.zipIdx k).foldl (fun cs (x:Value × Nat)=>cs.setIfInBounds (off+x.2) x.1) cells).toList=Bi cells.toList (off+k) vs:=by
 induction vs with
 | nil=>intro off k cells _;simp[Jh]
 | cons v vs ih=>
  intro off k cells h;simp only[bT]at h;simp only[List.zipIdx_cons,ABD];rw[ih off (k+1) _ (by simp;omega),G4 _ _ _ _ (by simpa using h)];simp[Array.toList_setIfInBounds,Nat.add_assoc]
theorem Mg {place:Nat->Option (Nat × Nat)}:∀(parts parts':List (Nat × Value)) (cells:AL) (cells':BR) (r:AL),ZI μ parts parts'->Am μ cells cells'.toList->KL place cells parts=some r->
 ∃r',Instr.fill place cells' parts'=some r'/\Am μ r r'.toList:=by
 intro parts;induction parts with
 | nil=>
  intro parts' cells cells' r hp hc hi;cases hp
  simp[KL]at hi;subst hi
  exact⟨cells',rfl,hc⟩
 | cons p parts ih=>
  intro parts' cells cells' r hp hc hi;cases hp with
  | @cons i v v' _ l' hv hch ht=>
   simp only[KL]at hi;cases hpl:place i with
   | none=>simp[hpl]at hi
   | some os=>
    obtain⟨off,size⟩:=os;simp only[hpl]at hi;cases hcnd:(Nat.beq v.cells.toList.length size&&Nat.ble (off+v.cells.toList.length) cells.length)
    ·simp only[hcnd,EB]at hi;cases hi
    ·simp only[hcnd,C8]at hi;simp only[Dg]at hcnd;have h1:=DN hcnd.1;have h2:=BE hcnd.2;have hr:=I2 hv hch;have hl1:v'.cells.size=size:=by have:=hr.length;rw[h1]at this;simpa using this.symm
     have hl2:off+v'.cells.size<=cells'.size:=by have:=hc.length;rw[h1]at h2;simp at this;omega
     have hsp:Am μ (Bi cells off v.cells.toList) ((v'.cells.toList.zipIdx 0).foldl (fun cs (x:Value × Nat)=>cs.setIfInBounds (off+x.2) x.1) cells').toList:=by
      rw[bc _ _ _ _ (by simpa using hl2)];unfold Bi;rw[hr.length];exact(hc.take _).append (hr.append (hc.drop _))
     obtain⟨r',e1,e2⟩:=ih l' _ _ r ht hsp hi;refine⟨r',?_,e2⟩;simp only[Instr.fill,hpl];have hno:¬(v'.cells.size≠size||off+v'.cells.size > cells'.size)=true:=by
      simp[hl1];omega
     simp only[hno];rw[<-e1]
     congr 1
     rw[<-Array.foldl_toList];simp[Array.toList_zipIdx]
theorem cO {t:TypeId} {parts parts':List (Nat × Value)} {v:Value} (hp:ZI μ parts parts') (hi:Y7 P t parts=some v) (ps:Array (Nat × Value)) (hps:ps.toList=parts'):
 ∃v',(Instr.build t ps).run P W= .ok v' W/\AH μ v v':=by
 unfold Y7 at hi;split at hi
 ·rename_i z _ e hz hu;obtain⟨i,zz,h1,h2,h3,h4⟩:=HB hz;split at hi
  ·rename_i n hn;obtain⟨ie,h5,rfl⟩:=Nl hn;cases hf:KL (fun i=>some (i * ie.size,ie.size)) z parts with
   | none=>simp[hf]at hi
   | some r=>
    simp only[hf,dH,C5]at hi;subst hi;obtain⟨r',e1,e2⟩:=Mg parts parts' z zz.cells r hp (by rw[<-h4];exact IE h3) hf;refine⟨.agg r',run_build W t ps r' ?_,AH.Ce.2 ⟨_,rfl,e2⟩⟩;rw[hps];simp[Program.built,h1,hu,h2,h5,e1]
  ·cases hi
 ·rename_i z fields hz hu;obtain⟨i,zz,h1,h2,h3,h4⟩:=HB hz;split at hi
  ·rename_i pl hpl;cases hf:KL (fun i=>pl[i]?) z parts with
   | none=>simp[hf]at hi
   | some r=>
    simp only[hf,dH,C5]at hi;subst hi;obtain⟨r',e1,e2⟩:=Mg parts parts' z zz.cells r hp (by rw[<-h4];exact IE h3) hf;refine⟨.agg r',run_build W t ps r' ?_,AH.Ce.2 ⟨_,rfl,e2⟩⟩;rw[hps];unfold Nc at hpl;simp[Program.built,h1,hu,h2,hpl,e1]
  ·cases hi
 ·cases hi
theorem JN {z:Value} {l:AL} (hf:flat z=true) (hl:z.cells.toList=l) (n:Nat):
 Am μ (Dn l n) (((Array.range n).map (z.cells[· % z.cells.size]!)).toList):=by
 subst hl;have hz:Am μ z.cells.toList z.cells.toList:=IE hf;have hd:AH μ (default:Value) default:= .bool _;simp only[Dn,re,Array.toList_range];refine Am.map _ _ _ fun i _=>?_
 have:z.cells[i % z.cells.size]! = z.cells.toList.getD (i % z.cells.toList.length) default:=by
  rw[getElem!_def,List.getD,Wt];simp only[ax];cases z.cells[i % z.cells.size]?<;>rfl
 rw[this];rcases U1 (i % z.cells.toList.length) z.cells.toList.length with hlt | hge
 ·simp only[List.getD,Jj hlt,rU];exact hz.idx _ hlt hlt
 ·simp only[List.getD,T6 hge,Option.getD_none];exact hd
theorem ER {l:AL} {c:BR} (k e:Nat) (t:TypeId) (h:Am μ l c.toList):CZ μ ⟨k,0,c.size,e⟩ (.cells l e false) (.cells c t):=by
 refine .cells ⟨k,0,c.size,e⟩ l e false c t 0 0 rfl ?_ (by simp) (fun _ i _=>by omega);have:=h.length;rw[bl,Nw (by omega)];exact h
theorem Mu (T:Bc) (b:Nat) (hd:T.d=0):AH (μ.ext b T) (.pointer (some ⟨b,0,none⟩)) (.pointer (some ⟨T.c,0,none⟩)):=by
 have:=AH.ptr (μ:=μ.ext b T) b 0 T (Ae.Af _ _ _);rw[hd]at this;exact this
theorem Eg (T:Bc) (b:Nat) (hd:T.d=0) (n c c':Nat) (hc:Ju T 0 n c c'):AH (μ.ext b T) (.slice (some ⟨b,0,none⟩) n c) (.slice (some ⟨T.c,0,none⟩) n c'):=
 .slice b 0 n c c' 0 T (Ae.Af _ _ _) hc (.inl (by omega))
theorem RX (h:AJ base W0 μ H W) {t:TypeId} {len:Nat} {parts parts':List (Nat × Value)} {v:Value} {H':AA} (hp:ZI μ parts parts') (hi:Gz P t len parts H=some (v,H')) (ps:Array (Nat × Value)) (hps:ps.toList=parts') (hcap:len < Aa):
 ∃μ' v' W',(Instr.buildSlice t len ps).run P W= .ok v' W'/\AJ base W0 μ' H' W'/\AH μ' v v'/\Ap μ H μ' H':=by
 unfold Gz at hi;split at hi
 ·rename_i e hu;split at hi
  ·rename_i n z hn hz;obtain⟨ie,h5,rfl⟩:=Nl hn;obtain⟨i,zz,h1,h2,h3,h4⟩:=HB hz;rw[h5]at h1;cases h1
   cases hz0:Nat.beq (len * ie.size) 0
   case true=>
    simp only[hz0,C8]at hi;split at hi
    ·cases hi
     cases hp
     have hz0:=DN hz0;have hrun:(Instr.buildSlice t len ps).run P W= .ok (.slice (some ⟨W.heap.size,0,none⟩) len len) (W.alloc (.cells #[] e)):=by
      have hr0:Array.range 0=#[]:=rfl;simp[Instr.buildSlice,run_underlying hu,sizeOf,typeInfo,h5,hz0,newRow,hps,hr0,Instr.fill]
     obtain⟨g1,g2⟩:=h.alloc rfl (ER (l:=[]) (c:=#[]) W.heap.size ie.size e .nil);exact⟨_,_,_,hrun,g1,Eg _ _ rfl len len len (.inl ⟨hcap,rfl⟩),g2⟩
    ·cases hi
   simp only[hz0,EB]at hi;cases hcnd:(Nat.ble (len * ie.size) 16777216)
   ·simp only[hcnd,EB]at hi;cases hi
   ·simp only[hcnd,C8]at hi;have c1:=BE hcnd;have c2:¬len * ie.size=0:=by intro e;rw[e]at hz0;exact absurd hz0 (by decide)
    cases hf:KL (fun i=>some (i * ie.size,ie.size)) (Dn z (len * ie.size)) parts with
    | none=>simp[hf]at hi
    | some r=>
     simp only[hf,dH,C5,Si]at hi;obtain⟨rfl,rfl⟩:=hi;obtain⟨r',e1,e2⟩:=Mg parts parts' _ _ r hp (JN h3 h4 (len * ie.size)) hf;have hrun:(Instr.buildSlice t len ps).run P W= .ok (.slice (some ⟨W.heap.size,0,none⟩) len len) (W.alloc (.cells r' e)):=by
      rw[<-hps]at e1;have hsmall:¬len * ie.size > 2 ^ 24:=by omega
      simp[Instr.buildSlice,run_underlying hu,sizeOf,typeInfo,zeroValue,h5,h2,hsmall,c2,e1,newRow]
     obtain⟨g1,g2⟩:=h.alloc rfl (ER W.heap.size ie.size e e2);exact⟨_,_,_,hrun,g1,Eg _ _ rfl len len len (.inl ⟨hcap,rfl⟩),g2⟩
  ·cases hi
 ·cases hi
end
section
variable {P:Program} {base:Env} {W0:World} {μ:Ae} {H:AA} {W:World}
inductive Fa (μ:Ae):C1->C1->Prop where
 | none:Fa μ none none
 | some {v v':Value} (h:AH μ v v'):Fa μ (some v) (some v')
theorem MH {x:Value} {y k:Nat} (h:JA x y=some k):∃kd,x= .int kd (Int.ofNat k)/\k<=y:=by
 unfold JA at h;split at h
 ·rename_i kd n;cases hb:Nat.ble n y<;>simp[hb]at h
  subst h;exact⟨kd,rfl,BE hb⟩
 ·cases h
theorem Cf {x x':Value} {y y' k:Nat} (hx:AH μ x x') (h:JA x y=some k) (hy:y<=y') (code:BoundsCode):(Instr.sliceBound x' y' code).run P W= .ok k W:=by
 obtain⟨kd,rfl,hk⟩:=MH h;cases hx
 have:(0:Int)<=Int.ofNat k/\Int.ofNat k<=(y':Int):=⟨by simp,by have:=Int.ofNat_le.2 (wQ hk hy);simpa using this⟩;simp only[Instr.sliceBound,asIntOf,Sem.run_bind,Sem.run_pure,Result.andThen_ok,MB this];simp
theorem H8 {len cap cap' l h m:Nat} {lo lo' hi hi' mx mx':C1} (isS:Bool) (hlo:Fa μ lo lo') (hhi:Fa μ hi hi') (hmx:Fa μ mx mx') (hb:Ev len cap lo hi mx=some (l,h,m)) (hc:cap<=cap'):
 ∃m',(Instr.sliceBounds isS len cap' lo' hi' mx').run P W= .ok (l,h,m') W/\l<=h/\((mx.isSome=true/\m'=m/\m<=cap)∨(mx=none/\m'=cap'/\m=cap))/\(h<=m∨(hi=none/\h=len)):=by
 unfold Ev at hb;cases hmx with
 | none=>
  simp only[VC]at hb;cases hhi with
  | none=>
   simp only[VC]at hb;cases hlo with
   | none=>
    simp only[VC,C5,Si]at hb;obtain⟨rfl,rfl,rfl⟩:=hb;exact⟨cap',by simp[Instr.sliceBounds],ay _,.inr ⟨rfl,rfl,rfl⟩,.inr ⟨rfl,rfl⟩⟩
   | some hv=>
    rename_i v v';cases hbd:JA v len with
    | none=>simp[hbd]at hb
    | some k=>
     simp only[hbd,VC,C5,Si]at hb;obtain⟨rfl,rfl,rfl⟩:=hb;have:=MH hbd;refine⟨cap',?_,by obtain⟨_,_,h⟩:=this;exact h,.inr ⟨rfl,rfl,rfl⟩,.inr ⟨rfl,rfl⟩⟩;simp[Instr.sliceBounds,Cf hv hbd (Nat.le_refl _)]
  | some hw=>
   rename_i u u';simp only at hb;cases hbu:JA u cap with
   | none=>simp[hbu]at hb
   | some k1=>
    have hk1:k1<=cap:=by obtain⟨_,_,h⟩:=MH hbu;exact h
    simp only[hbu,VC]at hb;cases hlo with
    | none=>
     simp only[VC,C5,Si]at hb;obtain⟨rfl,rfl,rfl⟩:=hb;refine⟨cap',?_,ay _,.inr ⟨rfl,rfl,rfl⟩,.inl hk1⟩;simp[Instr.sliceBounds,Cf hw hbu hc]
    | some hv=>
     rename_i v v';cases hbd:JA v k1 with
     | none=>simp[hbd]at hb
     | some k=>
      simp only[hbd,VC,C5,Si]at hb;obtain⟨rfl,rfl,rfl⟩:=hb;have:=MH hbd;refine⟨cap',?_,by obtain⟨_,_,h⟩:=this;exact h,.inr ⟨rfl,rfl,rfl⟩,.inl hk1⟩;simp[Instr.sliceBounds,Cf hw hbu hc,Cf hv hbd (Nat.le_refl _)]
 | some hx=>
  rename_i x x';cases hbx:JA x cap with
  | none=>simp[hbx]at hb
  | some k2=>
   have hk2:k2<=cap:=by obtain⟨_,_,h⟩:=MH hbx;exact h
   simp only[hbx,VC]at hb;cases hhi with
   | none=>simp at hb
   | some hw=>
    rename_i u u';simp only at hb;cases hbu:JA u k2 with
    | none=>simp[hbu]at hb
    | some k1=>
     have hk1:k1<=k2:=by obtain⟨_,_,h⟩:=MH hbu;exact h
     simp only[hbu,VC]at hb;cases hlo with
     | none=>
      simp only[VC,C5,Si]at hb;obtain⟨rfl,rfl,rfl⟩:=hb;refine⟨k2,?_,ay _,.inl ⟨rfl,rfl,hk2⟩,.inl hk1⟩;simp[Instr.sliceBounds,Cf hx hbx hc,Cf hw hbu (Nat.le_refl _)]
     | some hv=>
      rename_i v v';cases hbd:JA v k1 with
      | none=>simp[hbd]at hb
      | some k=>
       simp only[hbd,VC,C5,Si]at hb;obtain⟨rfl,rfl,rfl⟩:=hb;have:=MH hbd;refine⟨k2,?_,by obtain⟨_,_,h⟩:=this;exact h,.inl ⟨rfl,rfl,hk2⟩,.inl hk1⟩;simp[Instr.sliceBounds,Cf hx hbx hc,Cf hw hbu (Nat.le_refl _),Cf hv hbd (Nat.le_refl _)]
def Ib (sz e b off len cap:Nat) (low high max:C1):C1:=
 bif Nat.blt cap Aa then
  match Ev len cap low high max with
  | some (l,h,m)=>some (.slice (some ⟨b,bif Nat.beq m l then off else off+l * sz,none⟩) (h - l) (m - l))
  | none=>none
 else
  match max,Ev len (cap - Aa) low high max with
  | some _,some (l,h,m)=>bif Nat.blt m Aa then some (.slice (some ⟨b,bif Nat.beq m l then off else off+l * sz,none⟩) (h - l) (m - l))else none
  | none,some (l,h,_)=>bif Nat.ble l (cap - Aa)&&Nat.beq sz e then some (.slice (some ⟨b,off+l * sz,none⟩) (h - l) (Aa+(cap - Aa - l)))else none
  | _,none=>none
def elemAt (H:AA) (b:Nat):Nat:=
 match H.get b with
 | some (.cells _ e _)=>e
 | _=>0
def Ji (P:Program) (t:TypeId) (x:Value) (low high max:C1) (H:AA):C1:=
 match P.underlying t,x with
 | some (.array n e),.pointer (some ⟨b,off,none⟩)=>
  match Dx P e with
  | some sz=>bif Nat.blt n Aa then Ib sz 0 b off n n low high max else none
  | none=>none
 | some .string,.string s=>
  match max,Ev s.size s.size low high none with
  | none,some (l,h,_)=>some (.string (s.extract l h))
  | _,_=>none
 | some (.slice e),.slice none len cap=>
  match Dx P e,Ev len cap low high max with
  | some _,some (l,h,m)=>some (.slice none (h - l) (m - l))
  | _,_=>none
 | some (.slice e),.slice (some ⟨b,off,none⟩) len cap=>
  match Dx P e with
  | some sz=>bif Nat.blt cap Aa then Ib sz 0 b off len cap low high max else
   match H.get b with
   | some (.cells _ e _)=>Ib sz e b off len cap low high max
   | _=>none
  | none=>none
 | _,_=>none
theorem add_eq (c o n:Nat):(⟨c,o,none⟩:Addr).add n=⟨c,o+n,none⟩:=by
 unfold Addr.add;split<;>simp_all
theorem Ok {sz e b off o' len cap cap':Nat} {T:Bc} {lo lo' hi hi' mx mx':C1} {v:Value} (hlo:Fa μ lo lo') (hhi:Fa μ hi hi') (hmx:Fa μ mx mx') (hm:μ b=some T) (hc:Ju T off len cap cap') (ho:o'=T.d+off∨(len=0/\cap'=0))
 (isS:Bool) (hte:cap < Aa∨T.e=e) (hi0:Ib sz e b off len cap lo hi mx=some v):
 ∃l h m',(Instr.sliceBounds isS len cap' lo' hi' mx').run P W= .ok (l,h,m') W/\AH μ v (.slice (some (if m'=l then(⟨T.c,o',none⟩:Addr)else(⟨T.c,o',none⟩:Addr).add (l * sz))) (h - l) (m' - l)):=by
 unfold Ib at hi0;rcases hc with⟨hcx,rfl⟩ | ⟨hcu,hlb,hlen,hroom⟩
 ·have:Nat.blt cap' Aa=true:=Ez hcx;simp only[this,C8]at hi0;cases hb:Ev len cap' lo hi mx with
  | none=>simp[hb]at hi0
  | some x=>
   obtain⟨l,h,m⟩:=x;simp only[hb,C5]at hi0;subst hi0;obtain⟨m',hrun,hlh,hmm,hhm⟩:=H8 (P:=P) (W:=W) isS hlo hhi hmx hb (GO _);have hm':m'=m:=by rcases hmm with⟨_,h,_⟩ | ⟨_,h1,h2⟩<;>omega
   have hmle:m<=cap':=by rcases hmm with⟨_,_,h⟩ | ⟨_,h1,h2⟩<;>omega
   subst hm';refine⟨l,h,m',hrun,?_⟩
   by_cases e:m'=l
   ·have hbq:Nat.beq m' l=true:=by rw[e];exact VX _
    simp only[hbq,C8,MB e];refine .slice b off _ _ _ o' T hm (.inl ⟨by omega,rfl⟩) ?_;rcases ho with ho | ⟨h1,h2⟩
    ·exact .inl ho
    ·refine .inr ⟨?_,by omega⟩;rcases hhm with hh | ⟨_,hh⟩<;>omega
   ·have hbq:Nat.beq m' l=false:=by
     cases hq:Nat.beq m' l
     ·rfl
     ·exact absurd (DN hq) e
    simp only[hbq,EB,JT e,add_eq];refine .slice b _ _ _ _ _ T hm (.inl ⟨by omega,rfl⟩) ?_;rcases ho with ho | ⟨h1,h2⟩
    ·exact .inl (by omega)
    ·exfalso;rcases hhm with hh | ⟨_,hh⟩<;>omega
 ·have:Nat.blt cap Aa=false:=by
   cases hq:Nat.blt cap Aa
   ·rfl
   ·have:cap < Aa:=BE hq;omega
  simp only[this,EB]at hi0;cases hb:Ev len (cap - Aa) lo hi mx with
  | none=>cases mx<;>simp[hb]at hi0
  | some x=>
   obtain⟨l,h,m⟩:=x;obtain⟨m',hrun,hlh,hmm,hhm⟩:=H8 (P:=P) (W:=W) isS hlo hhi hmx hb hlb;refine⟨l,h,m',hrun,?_⟩;cases hmx with
   | none=>
    simp only[hb]at hi0;have hm':m'=cap'/\m=cap - Aa:=by
     rcases hmm with⟨h,_⟩ | ⟨_,h1,h2⟩
     ·cases h
     ·exact⟨h1,h2⟩
    obtain⟨hm1,hm2⟩:=hm';subst hm1;subst hm2
    cases hle:(Nat.ble l (cap - Aa)&&Nat.beq sz e)
    ·simp[hle]at hi0
    ·simp only[hle,C8,C5]at hi0;subst hi0;simp only[Dg]at hle;have hll:=BE hle.1;have hse:=DN hle.2;have hte':T.e=sz:=by rcases hte with hh | hh<;>omega
     have hroom':∀k,k<=m'->off+l * sz+(m' - l) * T.e<=T.r∨m' < l:=by
      intro k _;rcases U1 m' l with hh | hh
      ·exact .inr hh
      ·refine .inl ?_;rw[hte']at hroom ⊢;have:l * sz+(m' - l) * sz=m' * sz:=by rw[<-sx];congr 1;omega
       omega
     have hhl:h<=m':=by rcases hhm with hh | ⟨_,hh⟩<;>omega
     by_cases e:m'=l
     ·simp only[MB e];refine .slice b _ _ _ _ o' T hm (.inr ⟨by omega,by omega,by omega,by have:=hroom' 0 (by omega);omega,by omega⟩) (.inr ⟨by omega,by omega⟩)
     ·simp only[JT e,add_eq];refine .slice b _ _ _ _ _ T hm (.inr ⟨by omega,by omega,by omega,by have:=hroom' 0 (by omega);omega,by omega⟩) ?_;rcases ho with ho | ⟨h1,h2⟩
      ·exact .inl (by omega)
      ·exfalso;omega
   | some hx=>
    simp only[hb]at hi0;cases hlt:Nat.blt m Aa
    ·simp[hlt]at hi0
    simp only[hlt,C8,C5]at hi0;subst hi0;have hltm:m < Aa:=BE hlt;have hm':m'=m/\m<=cap - Aa:=by
     rcases hmm with⟨_,h1,h2⟩ | ⟨h,_⟩
     ·exact⟨h1,h2⟩
     ·cases h
    obtain⟨hm1,hml⟩:=hm';subst hm1
    by_cases e:m'=l
    ·have hbq:Nat.beq m' l=true:=by rw[e];exact VX _
     simp only[hbq,C8,MB e];refine .slice b off _ _ _ o' T hm (.inl ⟨by omega,rfl⟩) ?_;rcases ho with ho | ⟨h1,h2⟩
     ·exact .inl ho
     ·refine .inr ⟨?_,by omega⟩;rcases hhm with hh | ⟨_,hh⟩<;>omega
    ·have hbq:Nat.beq m' l=false:=by
      cases hq:Nat.beq m' l
      ·rfl
      ·exact absurd (DN hq) e
     simp only[hbq,EB,JT e,add_eq];refine .slice b _ _ _ _ _ T hm (.inl ⟨by omega,rfl⟩) ?_;rcases ho with ho | ⟨h1,h2⟩
     ·exact .inl (by omega)
     ·exfalso;rcases hhm with hh | ⟨_,hh⟩<;>omega
end
section
variable {P:Program} {base:Env} {W0:World} {μ:Ae} {H:AA} {W:World}
theorem LA (h:AJ base W0 μ H W) {t:TypeId} {x x' v:Value} {lo lo' hi hi' mx mx':C1} (hx:AH μ x x') (hlo:Fa μ lo lo') (hhi:Fa μ hi hi') (hmx:Fa μ mx mx') (hi0:Ji P t x lo hi mx H=some v):
 ∃v',(Instr.sliceAt t x' lo' hi' mx').run P W= .ok v' W/\AH μ v v':=by
 unfold Ji at hi0;split at hi0
 ·rename_i n e b off hu;cases hx with
  | ptr _ _ T hm=>
   split at hi0
   ·rename_i sz hsz;cases hn:Nat.blt n Aa
    ·simp[hn]at hi0
    ·simp only[hn,C8]at hi0;have hn':n < Aa:=BE hn;obtain⟨l,hh,m',hrun,hv⟩:=Ok (P:=P) (W:=W) (o':=T.d+off) (cap':=n) hlo hhi hmx hm (.inl ⟨hn',rfl⟩) (.inl rfl) false (.inl hn') hi0;refine⟨_,?_,hv⟩;simp[Instr.sliceAt,run_underlying hu,Instr.sureAddr,hrun,Bg hsz]
   ·cases hi0
 ·rename_i s hu;cases hx
  split at hi0
  ·rename_i l hh m hb;cases hi0
   cases hmx
   obtain⟨m',hrun,_,_,_⟩:=H8 (P:=P) (W:=W) false hlo hhi .none hb (GO _);refine⟨_,?_,.string _⟩;simp[Instr.sliceAt,Instr.slice,run_underlying hu,hrun]
  ·cases hi0
 ·rename_i e len cap hu;cases hx
  split at hi0
  ·rename_i sz l hh m hsz hb;cases hi0
   obtain⟨m',hrun,_,hmm,_⟩:=H8 (P:=P) (W:=W) true hlo hhi hmx hb (GO _);have:m'=m:=by rcases hmm with⟨_,h,_⟩ | ⟨_,h1,h2⟩<;>omega
   subst this;refine⟨_,?_,.CN _ _⟩;simp[Instr.sliceAt,Instr.slice,run_underlying hu,hrun,Bg hsz]
  ·cases hi0
 ·rename_i e b off len cap hu;cases hx with
  | slice _ _ _ _ cap' o' T hm hc ho=>
   split at hi0
   ·rename_i sz hsz;have fin:∀e',(cap < Aa∨T.e=e')->Ib sz e' b off len cap lo hi mx=some v->∃v',(Instr.sliceAt t (.slice (some ⟨T.c,o',none⟩) len cap') lo' hi' mx').run P W= .ok v' W/\AH μ v v':=by
     intro e' he' hs;obtain⟨l,hh,m',hrun,hv⟩:=Ok (P:=P) (W:=W) (o':=o') (cap':=cap') hlo hhi hmx hm hc ho true he' hs;refine⟨_,?_,hv⟩;simp only[Instr.sliceAt,Instr.slice,run_underlying hu,hrun,Bg hsz,Sem.run_bind,Result.andThen_ok,Sem.run_pure]
     by_cases e1:m'=l<;>simp[e1]
    cases hn:Nat.blt cap Aa
    ·simp only[hn,EB]at hi0;split at hi0
     ·rename_i cs ee ro hb;refine fin ee (.inr ?_) hi0;obtain⟨o1,_,hr⟩:=h.obj b _ hb T hm;cases hr with
      | cells _ _ _ a t lo hi he hc hr hf=>exact he.symm
     ·cases hi0
    ·simp only[hn,C8]at hi0;exact fin 0 (.inl (BE hn)) hi0
   ·cases hi0
 ·cases hi0
def H9 (P:Program) (t:TypeId) (len cap:Value) (H:AA):Option (Value × AA):=
 match P.underlying t,len,cap with
 | some (.slice e),.int _ (.ofNat l),.int _ (.ofNat c)=>
  match P.info? e,IX P e with
  | some i,some z=>
   bif Nat.ble l c&&Nat.ble (i.bytes * c) 281474976710656&&Nat.blt c 9223372036854775808 then
    some (.slice (some ⟨H.next,0,none⟩) l c,H.alloc (.cells (Dn z (c * i.size)) i.size false))
   else none
  | _,_=>none
 | _,_,_=>none
theorem wrap_i64 {n:Nat} (h:n < 9223372036854775808):IntKind.i64.wrap (Int.ofNat n)=Int.ofNat n:=by
 have h1:(Int.ofNat n)=(n:Int):=rfl;rw[h1];simp only[IntKind.wrap];simp[IntKind.bits,IntKind.signed];omega
theorem W9:9223372036854775808 < Aa:=by unfold Aa;decide
theorem Gr {t e:TypeId} {l c:Nat} {k1 k2:IntKind} {i:TypeInfo} {z:AL} (hu:P.underlying t=some (.slice e)) (hie:P.info? e=some i) (hz:IX P e=some z)
 (hcnd:(Nat.ble l c&&Nat.ble (i.bytes * c) 281474976710656&&Nat.blt c 9223372036854775808)=true):
 ∃o' T,(Instr.makeSlice t (.int k1 (Int.ofNat l)) (.int k2 (Int.ofNat c))).run P W= .ok (.slice (some ⟨W.heap.size,0,none⟩) l c) (W.alloc o')/\(T.c=W.heap.size/\T.d=0)/\CZ μ T (.cells (Dn z (c * i.size)) i.size false) o':=by
 obtain⟨i2,zz,h1,h2,h3,h4⟩:=HB hz;rw[hie]at h1;cases h1
 simp only[Dg]at hcnd;have c1:=BE hcnd.1.1;have c2:=BE hcnd.1.2;have c3:c < 9223372036854775808:=BE hcnd.2;have hz2:=JN (μ:=μ) h3 h4 (c * i.size);have w1:=wrap_i64 (n:=l) (by omega);have w2:=wrap_i64 c3;refine⟨.cells ((Array.range (c * i.size)).map (zz.cells[· % zz.cells.size]!)) e,_,?_,⟨rfl,rfl⟩,ER W.heap.size i.size e hz2⟩;have d1:¬((Int.ofNat c < 0||↑i.bytes * Int.ofNat c > (2 ^ 48:Int))=true):=by
  have hb:(i.bytes:Int) * (c:Int)<=281474976710656:=by
   have:=Int.ofNat_le.2 c2;rw[Int.natCast_mul]at this;exact this
  have hp:(2 ^ 48:Int)=281474976710656:=rfl;intro hcon;rw[vZ]at hcon;rcases hcon with hcon | hcon
  ·have:=rM hcon;have e:Int.ofNat c=(c:Int):=rfl;omega
  ·have hq:=rM hcon;rw[hp]at hq;have hq':(i.bytes:Int) * (c:Int) > 281474976710656:=hq;omega
 have d2:¬(Int.ofNat l < 0):=by simp
 have d3:¬(Int.ofNat l > Int.ofNat c):=by simp;omega
 simp only[Instr.makeSlice,run_underlying hu,Sem.run_bind,Result.andThen_ok,asInt,asIntOf,Sem.run_pure,typeInfo,run_program,hie,w1,w2,sizeOf];have d4:((Int.ofNat c < 0||↑i.bytes * Int.ofNat c > (2 ^ 48:Int))||decide (Int.ofNat l < 0)||decide (Int.ofNat l > Int.ofNat c))=false:=by
  rw[xp,xp];exact⟨⟨Bool.eq_false_iff.2 d1,MC d2⟩,MC d3⟩
 simp only[d4]
 by_cases hn:c * i.size=0
 ·have hr0:Array.range 0=#[]:=rfl;simp[hn,newRow,hie,hr0]
 ·simp[hn,newRow,zeroValue,typeInfo,hie,h2]
theorem SL (h:AJ base W0 μ H W) {t:TypeId} {len len' cap cap' v:Value} {H':AA} (hl:AH μ len len') (hc:AH μ cap cap') (hi:H9 P t len cap H=some (v,H')):
 ∃μ' v' W',(Instr.makeSlice t len' cap').run P W= .ok v' W'/\AJ base W0 μ' H' W'/\AH μ' v v'/\Ap μ H μ' H':=by
 unfold H9 at hi;split at hi
 ·rename_i e k1 l k2 c hu;cases hl;cases hc
  split at hi
  ·rename_i i z hie hz;cases hcnd:(Nat.ble l c&&Nat.ble (i.bytes * c) 281474976710656&&Nat.blt c 9223372036854775808)
   ·simp only[hcnd,EB]at hi;cases hi
   ·simp only[hcnd,C8,C5,Si]at hi;obtain⟨rfl,rfl⟩:=hi;obtain⟨o',T,hrun,hT,ho⟩:=Gr (P:=P) (μ:=μ) (W:=W) (k1:=k1) (k2:=k2) hu hie hz hcnd;obtain⟨g1,g2⟩:=h.alloc hT.1 ho;have:=W9;simp only[Dg]at hcnd;have c3:c < 9223372036854775808:=BE hcnd.2;have hs:=Eg (μ:=μ) T H.next hT.2 l c c (.inl ⟨by omega,rfl⟩);rw[hT.1]at hs;exact⟨_,_,_,hrun,g1,hs,g2⟩
  ·cases hi
 ·cases hi
end
section
variable {P:Program} {base:Env} {W0:World} {μ:Ae} {H:AA} {W:World}
def EM (sz:Nat) (x:Value) (H:AA):Option (Nat × AL):=
 match x with
 | .slice none n _=>bif Nat.beq n 0 then some (0,[])else none
 | .slice (some ⟨b,off,none⟩) n _=>
  bif Nat.beq (n * sz) 0 then some (n,[])else
  match H.get b with
  | some (.cells cs _ _)=>let l:=(cs.drop off).take (n * sz);bif Nat.beq l.length (n * sz)then some (n,l)else none
  | _=>none
 | .string s=>bif Nat.beq sz 1 then some (s.size,s.data.toList.map fun b=> .int .u8 b.toNat)else none
 | _=>none
theorem Gy (h:AJ base W0 μ H W) {sz n k:Nat} {x x':Value} {l:AL} (hx:AH μ x x') (hi:EM sz x H=some (n,l)) (hk:k<=n):
 (Builtin.lenOf x').run P W= .ok n W/\l.length=n * sz/\∃l',Am μ (l.take (k * sz)) l'/\(Builtin.firstCells sz k x').run P W= .ok l'.toArray W:=by
 unfold EM at hi;split at hi
 ·rename_i m c;cases hx
  cases hb:Nat.beq m 0
  ·simp[hb]at hi
  ·simp only[hb,C8,C5,Si]at hi;obtain⟨rfl,rfl⟩:=hi;have:=DN hb;subst this;exact⟨rfl,by simp,[],by simpa using Am.nil,rfl⟩
 ·rename_i b off m c;cases hx with
  | slice _ _ _ _ cap' o' T hm hc ho=>
   cases hb:Nat.beq (m * sz) 0
   ·simp only[hb,EB]at hi;have hnz:m * sz≠0:=by intro e;rw[e]at hb;cases hb
    split at hi
    ·rename_i cs e ro hget;cases hl:Nat.beq ((cs.drop off).take (m * sz)).length (m * sz)
     ·rw[hl]at hi;cases hi
     ·rw[hl]at hi;simp only[C8,C5,Si]at hi;obtain⟨rfl,rfl⟩:=hi;have hlen:=DN hl;have hoff:o'=T.d+off:=by
       rcases ho with ho | ⟨h1,_⟩
       ·exact ho
       ·subst h1;simp at hnz
      subst hoff;have hkk:k * sz<=m * sz:=di sz hk;have np:(((cs.drop off).take (m * sz)).take (k * sz)).length=k * sz:=by rw[Rg,hlen];omega
      obtain⟨l',r1,r2,_⟩:=h.row hget hm (off:=off) (l:=((cs.drop off).take (m * sz)).take (k * sz)) (by rw[np,tV,rH hkk]) P;rw[np]at r2;exact⟨rfl,hlen,l',r1,r2⟩
    ·cases hi
   ·simp only[hb,C8,C5,Si]at hi;obtain⟨rfl,rfl⟩:=hi;have hz:=DN hb;have hkk:k * sz<=m * sz:=di sz hk;have hk0:k * sz=0:=by omega
    refine⟨rfl,by simp[hz],[],by simpa using Am.nil,?_⟩;simp[Builtin.firstCells,hk0,loadCells,loadCellsFrom]
 ·rename_i s;cases hx
  cases hb:Nat.beq sz 1
  ·simp[hb]at hi
  ·simp only[hb,C8,C5,Si]at hi;obtain⟨rfl,rfl⟩:=hi;have:=DN hb;subst this;refine⟨rfl,by rw[oB,AAo];rfl,(s.extract 0 k).data.toList.map fun b=> .int .u8 b.toNat,?_,by
    show Result.ok ((s.extract 0 k).data.map _) W=_
    congr 1
    apply Array.ext'
    rw[re]⟩
   have:(s.extract 0 k).data.toList=s.data.toList.take k:=by simp[ByteArray.data_extract]
   rw[AAo,<-List.map_take,<-this];exact Am.map _ _ _ fun b _=> .int _ _
 ·cases hi
theorem cT (newLen:Nat):∀(k c:Nat),c < newLen->Builtin.growBy newLen k c<=newLen+newLen / 4+192:=by
 intro k;induction k with
 | zero=>intro c h;simp only[Builtin.growBy];omega
 | succ k ih=>
  intro c h;simp only[Builtin.growBy];rw[JT (by omega)];rcases U1 (c+(c+768) / 4) newLen with h1 | h1
  ·exact ih _ h1
  ·cases k with
   | zero=>simp only[Builtin.growBy];omega
   | succ k=>simp only[Builtin.growBy];rw[MB h1];omega
theorem Ja {need cap:Nat} (h:cap < need):Builtin.nextslicecap need cap<=2 * need+192:=by
 unfold Builtin.nextslicecap;split
 ·omega
 ·split
  ·omega
  ·have:=cT need 4 cap h;omega
theorem Lo {argTypes:Array TypeId} {ty sT xT e:TypeId} {d:TypeDesc} {i:TypeInfo} {bs:Option Addr} {len cap n:Nat} {x:Value} {l:AL} {w':World}
 (ht:argTypes.toList=[sT,xT]) (hu:P.underlying sT=some (.slice e)) (hux:P.underlying xT=some d) (hd:d= .string∨∃q,d= .slice q) (hi:P.info? e=some i) (hn:(Builtin.lenOf x).run P W= .ok n W) (hc:len+n<=cap)
 (hf:(Builtin.firstCells i.size n x).run P W= .ok l.toArray W) (hst:∀a,bs=some a->(storeCells (a.add (len * i.size)) l).run P W= .ok () w') (hno:bs=none->w'=W):
 (Builtin.append_ argTypes ty #[.slice bs len cap,x]).run P W= .ok (.slice bs (len+n) cap) w':=by
 obtain rfl:argTypes=#[sT,xT]:=by rw[<-yi];simpa using ht
 cases bs with
 | none=>
  obtain rfl:=hno rfl;rcases hd with rfl | ⟨q,rfl⟩<;>simp[Builtin.append_,run_underlying hu,run_underlying hux,sizeOf,typeInfo,hi,hn,hc,hf]
 | some a=>
  have hst:=hst a rfl;rcases hd with rfl | ⟨q,rfl⟩<;>simp[Builtin.append_,run_underlying hu,run_underlying hux,sizeOf,typeInfo,hi,hn,hc,hf,hst]
theorem JR {argTypes:Array TypeId} {ty sT xT e:TypeId} {d:TypeDesc} {i:TypeInfo} {bs:Option Addr} {len cap n:Nat} {x z:Value} {l lo:AL}
 (ht:argTypes.toList=[sT,xT]) (hu:P.underlying sT=some (.slice e)) (hux:P.underlying xT=some d) (hd:d= .string∨∃q,d= .slice q) (hi:P.info? e=some i) (hz:i.zero=some z) (hn:(Builtin.lenOf x).run P W= .ok n W) (hc:¬len+n<=cap)
 (hb:(2 * (len+n)+192) * i.bytes<=281474976710656) (hneed:len+n<=4611686018427387904)
 (hf:(Builtin.firstCells i.size n x).run P W.drew= .ok l.toArray W.drew) (hfo:(Builtin.firstCells i.size len (.slice bs len cap)).run P W.drew= .ok lo.toArray W.drew):
 ∃newCap,len+n<=newCap/\newCap<=9223372036854775807/\(Builtin.append_ argTypes ty #[.slice bs len cap,x]).run P W= .ok (.slice (some ⟨W.heap.size,0,none⟩) (len+n) newCap)
  (W.drew.alloc (.cells (lo.toArray++l.toArray++Builtin.zeroCells z.cells (newCap - (len+n))) e)):=by
 obtain rfl:argTypes=#[sT,xT]:=by rw[<-yi];simpa using ht
 have hnc:=Ja (need:=len+n) (cap:=cap) (by omega);have h48:¬(281474976710656 < Builtin.nextslicecap (len+n) cap * i.bytes):=by
  have:=di i.bytes hnc;omega
 have h63:¬(9223372036854775807 < ((len:Int)+(n:Int))):=by omega
 refine⟨grownCap W (len+n) cap e,by simp[grownCap,Question.cut],by simp only[grownCap,Question.cut];have:=AAd (W.tape W.drawn (.appendCap (len+n) cap e)) (y:=2 ^ 63 - (len+n)) (by omega);omega,?_⟩;rcases hd with rfl | ⟨q,rfl⟩<;>
  (simp[Builtin.append_,run_underlying hu,run_underlying hux,sizeOf,typeInfo,zeroValue,hi,hz,hn,hc,h63,h48,Question.forced,hf,hfo,newRow,grownCap]
   congr 2
   apply Array.ext'
   simp[List.append_assoc])
def GN (sz len n cap:Nat) (a:Option Addr) (new:AL) (H:AA):Option (Value × AA):=
 match a with
 | some ⟨b,off,none⟩=>
  match H.get b with
  | some (.cells cs e false)=>
   bif Nat.ble (off+len * sz+new.length) cs.length then some (.slice a (len+n) cap,H.put b (.cells (Bi cs (off+len * sz) new) e false))else none
  | _=>none
 | _=>none
def Nd (sz bytes len n:Nat) (a:Value) (new:AL) (H:AA):Option (Value × AA):=
 match EM sz a H with
 | some (_,GK)=>
  bif Nat.ble ((2 * (len+n)+192) * bytes) 281474976710656&&Nat.ble (len+n) 4611686018427387904 then
   some (.slice (some ⟨H.next,0,none⟩) (len+n) (Aa+(len+n)),H.alloc (.cells (GK++new) sz false))
  else none
 | none=>none
def FE (sz bytes len n:Nat) (s:Value) (new:AL) (H:AA):Option (Value × AA):=
 match s with
 | .slice (some ⟨b,off,none⟩) _ _=>
  match H.get b with
  | some (.cells cs e false)=>
   let GK:=(cs.drop off).take (len * sz)
   bif Nat.beq GK.length (len * sz)&&Nat.beq e sz&&Nat.ble ((2 * (len+n)+192) * bytes) 281474976710656&&Nat.ble (len+n) 4611686018427387904 then
    some (.slice (some ⟨H.next,0,none⟩) (len+n) (Aa+(len+n)),(H.del b).alloc (.cells (GK++new) sz false))
   else none
  | _=>none
 | _=>none
def Iv (sz bytes:Nat) (s:Value) (n:Nat) (new:AL) (H:AA):Option (Value × AA):=
 match s with
 | .slice a len cap=>
  bif Nat.beq n 0 then(bif Nat.ble len cap then some (s,H)else none)
  else bif Nat.blt cap Aa then
   bif Nat.ble (len+n) cap then GN sz len n cap a new H else Nd sz bytes len n s new H
  else bif Nat.ble (len+n) (cap - Aa)then GN sz len n cap a new H
  else FE sz bytes len n s new H
 | _=>none
def DM:Option TypeDesc->Bool
 | some .string=>true
 | some (.slice _)=>true
 | _=>false
def ZS:Option TypeDesc->Bool
 | some (.int _)=>true
 | _=>false
def pV (z:AL) (bytes:Nat) (x:Value):Option (Nat × AL):=
 match x with
 | .int _ (.ofNat n)=>bif Nat.ble (n * bytes) 281474976710656&&Nat.ble n 9223372036854775807 then some (n,Dn z (n * z.length))else none
 | _=>none
def UE (P:Program) (argTypes:Array TypeId) (args:AL) (H:AA):Option (Value × AA):=
 match argTypes.toList,args with
 | [sT,xT],[s,x]=>
  match P.underlying sT with
  | some (.slice e)=>
   match P.info? e,IX P e with
   | some i,some z=>
    bif ZS (P.underlying xT)then
     match pV z i.bytes x with
     | some (n,new)=>bif new.all Bh&&Nat.beq z.length i.size then Iv i.size i.bytes s n new H else none
     | none=>none
    else
    match EM i.size x H with
    | some (n,new)=>
     bif DM (P.underlying xT)&&new.all Bh&&Nat.beq z.length i.size then Iv i.size i.bytes s n new H else none
    | none=>none
   | _,_=>none
  | _=>none
 | _,_=>none
theorem KY (P:Program) (c:Nat) (t:TypeId) (fz:Nat × Nat):∀(l:AL) (k o:Nat) (a:BR) (w:World),w.heap[c]? = some (.cells a t fz)->o+k+l.length<=a.size->(∀i,i < a.size->¬(fz.1<=i/\i < fz.2))->(∀v∈l,v.oneCell'=true)->
 ∃w' a',(storeCells ⟨c,o,none⟩ l k).run P w= .ok () w'/\w'.heap[c]? = some (.cells a' t fz)/\a'.toList=Bi a.toList (o+k) l/\w'.heap.size=w.heap.size/\(∀i,i≠c->w'.heap[i]? = w.heap[i]?)/\w'.output=w.output/\w'.os=w.os:=by
 intro l;induction l with
 | nil=>intro k o a w hw _ _ _;exact⟨w,a,rfl,hw,by rw[Jh],rfl,fun _ _=>rfl,rfl,rfl⟩
 | cons v l ih=>
  intro k o a w hw hlen hf h1;simp only[bT]at hlen;have hadd:(⟨c,o,none⟩:Addr).add k=⟨c,o+k,none⟩:=add_eq c o k;have hcell:w.cell? ⟨c,o+k,none⟩=some (a[o+k]'(by omega)):=by
   simp only[World.cell?,hw];simp
  have hfz:w.frozen? ⟨c,o+k,none⟩=false:=by
   have:=hf (o+k) (by omega);simp only[World.frozen?,hw];simp only[wL,kV];omega
  have hst:(store ((⟨c,o,none⟩:Addr).add k) v).run P w= .ok () (w.setCell ⟨c,o+k,none⟩ v):=by
   rw[hadd,run_store P w _ v _ (h1 v (by simp))];simp[hcell,hfz]
  have hw1:(w.setCell ⟨c,o+k,none⟩ v).heap[c]? = some (.cells (a.setIfInBounds (o+k) v) t fz):=by
   simp only[World.setCell,ABo,AAR,hw];rfl
  obtain⟨w',a',r1,r2,r3,r4,r5,r6,r7⟩:=ih (k+1) o (a.setIfInBounds (o+k) v) (w.setCell ⟨c,o+k,none⟩ v) hw1 (by simp;omega) (by simpa using hf) (fun x hx=>h1 x (by simp[hx]));refine⟨w',a',?_,r2,?_,?_,?_,r6,r7⟩
  ·simp only[storeCells,Sem.run_bind,hst,Result.andThen_ok,r1]
  ·rw[r3,G4 _ _ _ _ (by simp;omega),AAY];rfl
  ·rw[r4];simp
  ·intro i hi;rw[r5 i hi];simp only[World.setCell,ABo];rw[JT (gi hi)]
theorem Gg {o:Option TypeDesc} (h:DM o=true):∃d,o=some d/\(d= .string∨∃q,d= .slice q):=by
 unfold DM at h;split at h
 ·exact⟨_,rfl,.inl rfl⟩
 ·exact⟨_,rfl,.inr ⟨_,rfl⟩⟩
 ·cases h
theorem Eh (z:BR) (n:Nat):(Builtin.zeroCells z n).size=n * z.size:=by simp[Builtin.zeroCells]
structure MY (P:Program) (μ:Ae) (W:World) (argTypes:Array TypeId) (ty e:TypeId) (i:TypeInfo) (zz x':Value) (n:Nat) (new:AL):Prop where
 wz:∃new',Am μ new new'/\∀(bs:Option Addr) (len cap:Nat) (w':World),len+n<=cap->(∀a,bs=some a->(storeCells (a.add (len * i.size)) new').run P W= .ok () w')->(bs=none->w'=W)->
  (Builtin.append_ argTypes ty #[.slice bs len cap,x']).run P W= .ok (.slice bs (len+n) cap) w'
 iz:∃new2,Am μ new new2/\∀(bs:Option Addr) (len cap:Nat) (lo:AL),¬len+n<=cap->(2 * (len+n)+192) * i.bytes<=281474976710656->len+n<=4611686018427387904->
  (Builtin.firstCells i.size len (.slice bs len cap)).run P W.drew= .ok lo.toArray W.drew->∃newCap,len+n<=newCap/\newCap<=9223372036854775807/\(Builtin.append_ argTypes ty #[.slice bs len cap,x']).run P W= .ok (.slice (some ⟨W.heap.size,0,none⟩) (len+n) newCap)
   (W.drew.alloc (.cells (lo.toArray++new2.toArray++Builtin.zeroCells zz.cells (newCap - (len+n))) e))
theorem L5 (h:AJ base W0 μ H W) {argTypes:Array TypeId} {ty e:TypeId} {i:TypeInfo} {zz s s' x' v:Value} {n:Nat} {new:AL} {H':AA} (hs:AH μ s s') (hsrc:MY P μ W argTypes ty e i zz x' n new) (hzsz:zz.cells.size=i.size)
 (hnl:new.length=n * i.size) (hok:new.all Bh=true) (hcu:∀a len cap,s= .slice a len cap->Aa<=cap) {len:Nat} (hlen:∀a m cap,s= .slice a m cap->m=len) (hi:FE i.size i.bytes len n s new H=some (v,H')):
 ∃μ' v' W',(Builtin.append_ argTypes ty #[s',x']).run P W= .ok v' W'/\AJ base W0 μ' H' W'/\AH μ' v v'/\Ap μ H μ' H':=by
 obtain⟨new',hn1,hinR⟩:=hsrc.wz;have hgrow:∀(bs:Option Addr) (len cap':Nat) (GK:AL) (Hd:AA),AJ base W0 μ Hd W->Ap μ H μ Hd->¬len+n<=cap'->(2 * (len+n)+192) * i.bytes<=281474976710656->len+n<=4611686018427387904->GK.length=len * i.size->
  (∃old',Am μ GK old'/\(Builtin.firstCells i.size len (.slice bs len cap')).run P W.drew= .ok old'.toArray W.drew)->
  ∃μ' v' W',(Builtin.append_ argTypes ty #[.slice bs len cap',x']).run P W= .ok v' W'/\AJ base W0 μ' (Hd.alloc (.cells (GK++new) i.size false)) W'/\
   AH μ' (.slice (some ⟨Hd.next,0,none⟩) (len+n) (Aa+(len+n))) v'/\Ap μ H μ' (Hd.alloc (.cells (GK++new) i.size false)):=by
  intro bs len cap' GK Hd hd0 hev hnc hbig hbig2 holen ⟨old',o1,o2⟩;obtain⟨new2,m1,hgr⟩:=hsrc.iz;obtain⟨newCap,g1,g1b,g2⟩:=hgr bs len cap' old' hnc hbig hbig2 o2;have hal:=(hd0.drawn (W.drawn+1)).alloc (T:=⟨W.heap.size,0,newCap * i.size,i.size⟩) (o:= .cells (GK++new) i.size false) (o':= .cells (old'.toArray++new2.toArray++Builtin.zeroCells zz.cells (newCap - (len+n))) e) rfl ?_
  ·refine⟨_,_,_,g2,hal.1,Eg _ _ rfl _ _ _ (.inr ⟨by omega,by omega,g1,?_,.inr g1b⟩),hev.trans hal.2⟩;show 0+newCap * i.size<=newCap * i.size;omega
  ·have e1:=o1.length;have e2:=m1.length;refine .cells ⟨W.heap.size,0,newCap * i.size,i.size⟩ _ _ false _ e 0 0 rfl ?_ ?_ (fun _ j _=>by omega)
   ·simp only[bl,pJ,aU];rw[<-aU,Zq (by simp;omega),Nw (by simp;omega)];exact o1.append m1
   ·simp only[ABM,AAt,Eh,hzsz,RP];rw[<-e1,<-e2,holen,hnl,<-sx,<-sx]
    congr 1
    omega
 unfold FE at hi;split at hi
 ·rename_i b off len2 cap;have e9:=(hlen _ _ _ rfl).symm;subst e9;have hcapU:Aa<=cap:=hcu _ _ _ rfl;split at hi
  ·rename_i cs ee hget;cases hbb:(Nat.beq ((cs.drop off).take (len * i.size)).length (len * i.size)&&Nat.beq ee i.size&&Nat.ble ((2 * (len+n)+192) * i.bytes) 281474976710656&&Nat.ble (len+n) 4611686018427387904)
   ·simp only[hbb,EB]at hi;cases hi
   ·simp only[hbb,C8,C5,Si]at hi;obtain⟨rfl,rfl⟩:=hi;simp only[Dg]at hbb;obtain⟨⟨⟨b1,b2⟩,b3⟩,b4⟩:=hbb;have b1:=DN b1;have b2:=DN b2;have b3:=BE b3;have b4:=BE b4;subst b2;cases hs with
    | slice _ _ _ _ cap' o' T hm hcr ho=>
     have hcr':cap - Aa<=cap'/\len<=cap'/\off+cap' * T.e<=T.r/\(T.e=1∨cap'<=9223372036854775807):=by
      rcases hcr with⟨c1,c2⟩ | ⟨c1,c2,c3,c4,c5⟩
      ·omega
      ·exact⟨c2,c3,c4,c5⟩
     obtain⟨c2,c3,c4,c5⟩:=hcr';obtain⟨hdel,hdelE⟩:=h.del hm
     by_cases hfit:len+n<=cap'
     ·by_cases hoo:o'=T.d+off
      rotate_left
      ·have hdeg:len=0/\cap'=0:=by rcases ho with ho | ho;exact absurd ho hoo;exact ho
       obtain⟨rfl,rfl⟩:=hdeg;have hn00:n=0:=by omega
       subst hn00;have hnew:new=[]:=Ss (by omega);subst hnew;have hnew':new'=[]:=Ss (by have:=hn1.length;simpa using this.symm);subst hnew';obtain⟨ob,hob,hor⟩:=h.obj b _ hget T hm;cases hor with
       | cells _ _ _ arr t lo hi2 hTe hcl hsz hfz=>
        obtain⟨φ,q⟩:=h.abs;have hmap:=hdel.K8 (T:=⟨T.c,T.d+off,T.r - off,i.size⟩) (o:= .cells ((cs.drop off).take (0 * i.size)++[]) i.size false) (W':=W) (GO _)
         (fun j _ hj=>rfl)
         (fun b' p T' hb' hm' hv=>by
          intro e1;rw[AA.BU]at hb'
          by_cases e2:b'=b
          ·rw[MB e2]at hb';cases hb'
          ·rw[JT e2]at hb';exact e2 (h.inj b' b _ _ hb' hget T' T hm' hm hv id e1 (.inr rfl)))
         ⟨φ,⟨fun b' a ro T' h1 h2=>q.rep b' a ro T' (AA.Bb h1).2 h2,fun b' a ro T' h1 h2 b2 o2 T2 h3 h4 h5=>q.DG b' a ro T' (AA.Bb h1).2 h2 b2 o2 T2 (AA.Bb h3).2 h4 h5⟩,
          fun b' a ro h1 ⟨T',h2⟩=>(q.DG b' a ro T' (AA.Bb h1).2 h2 b _ T hget hm (gi (AA.Bb h1).1)).1 id⟩
         hob (h.own b _ hget rfl T hm id) ?_ rfl rfl
        ·refine⟨_,_,W,hinR _ _ _ _ (GO _) (fun a ha=>?_) (fun ha=>by cases ha),hmap.1,?_,hdelE.trans hmap.2⟩
         ·cases ha
          simp[storeCells]
         ·exact .slice H.next 0 _ _ _ _ ⟨T.c,T.d+off,T.r - off,i.size⟩ (Ae.Af _ _ _) (.inr ⟨by omega,by omega,hfit,by show 0+0 * i.size<=T.r - off;omega,by omega⟩) (.inr ⟨rfl,rfl⟩)
        ·refine .cells ⟨T.c,T.d+off,T.r - off,i.size⟩ _ _ false _ t lo hi2 rfl ?_ ?_ ?_
         ·simp only[ABp,AAk,vf];exact .nil
         ·show arr.size=T.d+off+(T.r - off);simp only[ABp,AAN]at c4;omega
         ·intro _ j hj;exact hfz rfl j hj
      subst hoo;obtain⟨ob,hob,hor⟩:=h.obj b _ hget T hm;cases hor with
      | cells _ _ _ arr t lo hi2 hTe hcl hsz hfz=>
       rw[<-hTe]at c4;have hne1:len * i.size+n * i.size<=cap' * i.size:=by rw[<-sx];exact di _ hfit
       have hcslen:=hcl.length;have hn1l:=hn1.length;obtain⟨w',arr',r1,r2,r3,r4,r5,r6,r7⟩:=KY P T.c t (lo,hi2) new' 0 (T.d+off+len * i.size) arr W hob (by omega) (fun j hj=>hfz rfl j (.inl hj)) (fun q hq=>by
        obtain⟨k,hk,rfl⟩:=AAU hq;have hk2:k < new.length:=by omega
        exact Jk (hn1.idx k hk2 hk) (List.all_eq_true.1 hok _ (AAX hk2)))
       obtain⟨φ,q⟩:=h.abs;have hmap:=hdel.K8 (T:=⟨T.c,T.d+off,T.r - off,i.size⟩) (o:= .cells ((cs.drop off).take (len * i.size)++new) i.size false) (W':=w') (by omega)
        (fun j _ hj=>r5 j hj)
        (fun b' p T' hb' hm' hv=>by
         intro e1;rw[AA.BU]at hb'
         by_cases e2:b'=b
         ·rw[MB e2]at hb';cases hb'
         ·rw[JT e2]at hb';exact e2 (h.inj b' b _ _ hb' hget T' T hm' hm hv id e1 (.inr rfl)))
        ⟨φ,⟨fun b' a ro T' h1 h2=>q.rep b' a ro T' (AA.Bb h1).2 h2,fun b' a ro T' h1 h2 b2 o2 T2 h3 h4 h5=>q.DG b' a ro T' (AA.Bb h1).2 h2 b2 o2 T2 (AA.Bb h3).2 h4 h5⟩,
         fun b' a ro h1 ⟨T',h2⟩=>(q.DG b' a ro T' (AA.Bb h1).2 h2 b _ T hget hm (gi (AA.Bb h1).1)).1 id⟩
        r2 (h.own b _ hget rfl T hm id) ?_ r6 r7
       ·refine⟨_,_,w',hinR _ _ _ _ hfit (fun a ha=>?_) (fun ha=>by cases ha),hmap.1,?_,hdelE.trans hmap.2⟩
        ·cases ha
         rw[add_eq];exact r1
        ·exact .slice H.next 0 _ _ _ _ ⟨T.c,T.d+off,T.r - off,i.size⟩ (Ae.Af _ _ _) (.inr ⟨by omega,by omega,hfit,by show 0+cap' * i.size<=T.r - off;omega,by show i.size=1∨_;omega⟩) (.inl rfl)
       ·refine .cells ⟨T.c,T.d+off,T.r - off,i.size⟩ _ _ false _ t lo hi2 rfl ?_ ?_ ?_
        ·have hal:arr.toList.length=arr.size:=by simp
         show Am μ _ (List.take _ (List.drop (T.d+off) arr'.toList));rw[r3,AAN];have hold:Am μ ((cs.drop off).take (len * i.size)) ((arr.toList.drop (T.d+off)).take (len * i.size)):=by
          have:=(hcl.drop off).take (len * i.size);rw[AAu,AAh,tV,rH (by rw[Rg,Tx]at b1;omega)]at this;exact this
         have hsplit:(Bi arr.toList (T.d+off+len * i.size) new').drop (T.d+off)=((arr.toList.drop (T.d+off)).take (len * i.size))++(new'++arr.toList.drop (T.d+off+len * i.size+new'.length)):=by
          unfold Bi;rw[yl (by simp;omega),AAu]
          congr 2
          omega
         have hol:=hold.length;generalize hO:(cs.drop off).take (len * i.size)=O at hold hol b1 ⊢;generalize hO':(arr.toList.drop (T.d+off)).take (len * i.size)=O' at hold hol hsplit;rw[hsplit,<-aU,Zq (by simp only[Pq];omega),Nw (l:=O'++new') (by simp only[Pq];omega)];exact hold.append hn1
        ·show arr'.size=T.d+off+(T.r - off);have:arr'.toList.length=arr.size:=by
          rw[r3];unfold Bi
          simp only[Pq,Rg,Tx,ax];omega
         rw[ax]at this;omega
        ·intro _ j hj;refine hfz rfl j ?_;have hsame:arr'.size=arr.size->(j < arr.size∨(j=arr.size/\i.size≠1)):=fun e=>by rw[<-e];exact hj
         refine hsame ?_;have:arr'.toList.length=arr.size:=by
          rw[r3];unfold Bi
          simp only[Pq,Rg,Tx,ax];omega
         rw[ax]at this;omega
     ·refine hgrow _ len cap' _ (H.del b) hdel hdelE hfit b3 b4 b1 ?_;have hsrcq:∃q,EM i.size (.slice (some ⟨b,off,none⟩) len cap) H=some (len,q)/\q=(cs.drop off).take (len * i.size):=by
       unfold EM;cases hz0:Nat.beq (len * i.size) 0
       ·simp only[hz0,EB,hget];rw[show Nat.beq ((cs.drop off).take (len * i.size)).length (len * i.size)=true by rw[b1];exact VX _];exact⟨_,rfl,rfl⟩
       ·simp only[hz0,C8];have hz0:=DN hz0;exact⟨[],rfl,by rw[hz0];simp⟩
      obtain⟨q,hq1,hq2⟩:=hsrcq;obtain⟨_,ol,old',o1,o2⟩:=Gy (P:=P) (h.drawn (W.drawn+1)) (AH.slice b off len cap cap' o' T hm hcr ho) hq1 (GO len);rw[Nw (by omega),hq2]at o1;exact⟨old',o1,o2⟩
  ·cases hi
 ·cases hi
theorem G9 (h:AJ base W0 μ H W) {argTypes:Array TypeId} {ty e:TypeId} {i:TypeInfo} {zz s s' x' v:Value} {n:Nat} {new:AL} {H':AA} (hs:AH μ s s') (hsrc:MY P μ W argTypes ty e i zz x' n new) (hzsz:zz.cells.size=i.size)
 (hnl:new.length=n * i.size) (hok:new.all Bh=true) (hi:Iv i.size i.bytes s n new H=some (v,H')):
 ∃μ' v' W',(Builtin.append_ argTypes ty #[s',x']).run P W= .ok v' W'/\AJ base W0 μ' H' W'/\AH μ' v v'/\Ap μ H μ' H':=by
 obtain⟨new',hn1,hinR⟩:=hsrc.wz;have hgrow:∀(bs:Option Addr) (len cap':Nat) (GK:AL) (Hd:AA),AJ base W0 μ Hd W->Ap μ H μ Hd->¬len+n<=cap'->(2 * (len+n)+192) * i.bytes<=281474976710656->len+n<=4611686018427387904->GK.length=len * i.size->
  (∃old',Am μ GK old'/\(Builtin.firstCells i.size len (.slice bs len cap')).run P W.drew= .ok old'.toArray W.drew)->
  ∃μ' v' W',(Builtin.append_ argTypes ty #[.slice bs len cap',x']).run P W= .ok v' W'/\AJ base W0 μ' (Hd.alloc (.cells (GK++new) i.size false)) W'/\
   AH μ' (.slice (some ⟨Hd.next,0,none⟩) (len+n) (Aa+(len+n))) v'/\Ap μ H μ' (Hd.alloc (.cells (GK++new) i.size false)):=by
  intro bs len cap' GK Hd hd0 hev hnc hbig hbig2 holen ⟨old',o1,o2⟩;obtain⟨new2,m1,hgr⟩:=hsrc.iz;obtain⟨newCap,g1,g1b,g2⟩:=hgr bs len cap' old' hnc hbig hbig2 o2;have hal:=(hd0.drawn (W.drawn+1)).alloc (T:=⟨W.heap.size,0,newCap * i.size,i.size⟩) (o:= .cells (GK++new) i.size false) (o':= .cells (old'.toArray++new2.toArray++Builtin.zeroCells zz.cells (newCap - (len+n))) e) rfl ?_
  ·refine⟨_,_,_,g2,hal.1,Eg _ _ rfl _ _ _ (.inr ⟨by omega,by omega,g1,?_,.inr g1b⟩),hev.trans hal.2⟩;show 0+newCap * i.size<=newCap * i.size;omega
  ·have e1:=o1.length;have e2:=m1.length;refine .cells ⟨W.heap.size,0,newCap * i.size,i.size⟩ _ _ false _ e 0 0 rfl ?_ ?_ (fun _ j _=>by omega)
   ·simp only[bl,pJ,aU];rw[<-aU,Zq (by simp;omega),Nw (by simp;omega)];exact o1.append m1
   ·simp only[ABM,AAt,Eh,hzsz,RP];rw[<-e1,<-e2,holen,hnl,<-sx,<-sx]
    congr 1
    omega
 unfold Iv at hi;split at hi
 ·rename_i a len cap;cases hn0:Nat.beq n 0
  ·simp only[hn0,EB]at hi;have hnpos:n≠0:=by intro e;rw[e]at hn0;cases hn0
   have hin:∀(cap':Nat),s'= .slice (match s' with | .slice a _ _=>a | _=>none) len cap'->len+n<=cap'->GN i.size len n cap a new H=some (v,H')->
    ∃μ' v' W',(Builtin.append_ argTypes ty #[s',x']).run P W= .ok v' W'/\AJ base W0 μ' H' W'/\AH μ' v v'/\Ap μ H μ' H':=by
    intro cap' hs' hle hin;unfold GN at hin;split at hin
    ·rename_i b off;cases hs with
     | slice _ _ _ _ cap2 o' T hm hcr ho=>
      have hcc:cap2=cap':=by injection hs'
      subst hcc;split at hin
      ·rename_i cs ee hget;cases hbb:Nat.ble (off+len * i.size+new.length) cs.length
       ·simp[hbb]at hin
       ·simp only[hbb,C8,C5,Si]at hin;obtain⟨rfl,rfl⟩:=hin;have hbb:=BE hbb;have hoo:o'=T.d+off:=by
         rcases ho with ho | ⟨h1,h2⟩
         ·exact ho
         ·omega
        subst hoo;obtain⟨W',w1,w2,w3⟩:=AJ.UF P hm new new' H W cs (off+len * i.size) 0 h hget hn1 hok (by omega);refine⟨μ,_,W',hinR _ _ _ _ hle (fun a ha=>?_) (fun ha=>by cases ha),w2,?_,w3⟩
        ·cases ha
         rw[add_eq,jV];exact w1
        ·refine .slice b off _ _ _ _ T hm ?_ (.inl rfl);rcases hcr with⟨c1,c2⟩ | ⟨c1,c2,c3,c4,c5⟩
         ·exact .inl ⟨c1,c2⟩
         ·exact .inr ⟨c1,c2,hle,c4,c5⟩
      ·cases hin
    ·cases hin
   cases hx1:Nat.blt cap Aa
   ·simp only[hx1,EB]at hi;have hcapU:Aa<=cap:=by
     rcases U1 cap Aa with hh | hh
     ·exact absurd (Ez hh) (by rw[show Nat.ble (cap+1) Aa=Nat.blt cap Aa from rfl,hx1];decide)
     ·exact hh
    cases hx2:Nat.ble (len+n) (cap - Aa)
    ·simp only[hx2,EB]at hi;unfold FE at hi;split at hi
     ·rename_i b off _ _ heq;cases heq
      split at hi
      ·rename_i cs ee hget;cases hbb:(Nat.beq ((cs.drop off).take (len * i.size)).length (len * i.size)&&Nat.beq ee i.size&&Nat.ble ((2 * (len+n)+192) * i.bytes) 281474976710656&&Nat.ble (len+n) 4611686018427387904)
       ·simp only[hbb,EB]at hi;cases hi
       ·simp only[hbb,C8,C5,Si]at hi;obtain⟨rfl,rfl⟩:=hi;simp only[Dg]at hbb;obtain⟨⟨⟨b1,b2⟩,b3⟩,b4⟩:=hbb;have b1:=DN b1;have b2:=DN b2;have b3:=BE b3;have b4:=BE b4;subst b2;cases hs with
        | slice _ _ _ _ cap' o' T hm hcr ho=>
         have hcr':cap - Aa<=cap'/\len<=cap'/\off+cap' * T.e<=T.r/\(T.e=1∨cap'<=9223372036854775807):=by
          rcases hcr with⟨c1,c2⟩ | ⟨c1,c2,c3,c4,c5⟩
          ·omega
          ·exact⟨c2,c3,c4,c5⟩
         obtain⟨c2,c3,c4,c5⟩:=hcr';obtain⟨hdel,hdelE⟩:=h.del hm
         by_cases hfit:len+n<=cap'
         ·have hoo:o'=T.d+off:=by
           rcases ho with ho | ⟨h1,h2⟩
           ·exact ho
           ·omega
          subst hoo;obtain⟨ob,hob,hor⟩:=h.obj b _ hget T hm;cases hor with
          | cells _ _ _ arr t lo hi2 hTe hcl hsz hfz=>
           rw[<-hTe]at c4;have hne1:len * i.size+n * i.size<=cap' * i.size:=by rw[<-sx];exact di _ hfit
           have hcslen:=hcl.length;have hn1l:=hn1.length;obtain⟨w',arr',r1,r2,r3,r4,r5,r6,r7⟩:=KY P T.c t (lo,hi2) new' 0 (T.d+off+len * i.size) arr W hob (by omega) (fun j hj=>hfz rfl j (.inl hj)) (fun q hq=>by
            obtain⟨k,hk,rfl⟩:=AAU hq;have hk2:k < new.length:=by omega
            exact Jk (hn1.idx k hk2 hk) (List.all_eq_true.1 hok _ (AAX hk2)))
           obtain⟨φ,q⟩:=h.abs;have hmap:=hdel.K8 (T:=⟨T.c,T.d+off,T.r - off,i.size⟩) (o:= .cells ((cs.drop off).take (len * i.size)++new) i.size false) (W':=w') (by omega)
            (fun j _ hj=>r5 j hj)
            (fun b' p T' hb' hm' hv=>by
             intro e1;rw[AA.BU]at hb'
             by_cases e2:b'=b
             ·rw[MB e2]at hb';cases hb'
             ·rw[JT e2]at hb';exact e2 (h.inj b' b _ _ hb' hget T' T hm' hm hv id e1 (.inr rfl)))
            ⟨φ,⟨fun b' a ro T' h1 h2=>q.rep b' a ro T' (AA.Bb h1).2 h2,fun b' a ro T' h1 h2 b2 o2 T2 h3 h4 h5=>q.DG b' a ro T' (AA.Bb h1).2 h2 b2 o2 T2 (AA.Bb h3).2 h4 h5⟩,
             fun b' a ro h1 ⟨T',h2⟩=>(q.DG b' a ro T' (AA.Bb h1).2 h2 b _ T hget hm (gi (AA.Bb h1).1)).1 id⟩
            r2 (h.own b _ hget rfl T hm id) ?_ r6 r7
           ·refine⟨_,_,w',hinR _ _ _ _ hfit (fun a ha=>?_) (fun ha=>by cases ha),hmap.1,?_,hdelE.trans hmap.2⟩
            ·cases ha
             rw[add_eq];exact r1
            ·exact .slice H.next 0 _ _ _ _ ⟨T.c,T.d+off,T.r - off,i.size⟩ (Ae.Af _ _ _) (.inr ⟨by omega,by omega,hfit,by show 0+cap' * i.size<=T.r - off;omega,by show i.size=1∨_;omega⟩) (.inl rfl)
           ·refine .cells ⟨T.c,T.d+off,T.r - off,i.size⟩ _ _ false _ t lo hi2 rfl ?_ ?_ ?_
            ·have hal:arr.toList.length=arr.size:=by simp
             show Am μ _ (List.take _ (List.drop (T.d+off) arr'.toList));rw[r3,AAN];have hold:Am μ ((cs.drop off).take (len * i.size)) ((arr.toList.drop (T.d+off)).take (len * i.size)):=by
              have:=(hcl.drop off).take (len * i.size);rw[AAu,AAh,tV,rH (by rw[Rg,Tx]at b1;omega)]at this;exact this
             have hsplit:(Bi arr.toList (T.d+off+len * i.size) new').drop (T.d+off)=((arr.toList.drop (T.d+off)).take (len * i.size))++(new'++arr.toList.drop (T.d+off+len * i.size+new'.length)):=by
              unfold Bi;rw[yl (by simp;omega),AAu]
              congr 2
              omega
             have hol:=hold.length;generalize hO:(cs.drop off).take (len * i.size)=O at hold hol b1 ⊢;generalize hO':(arr.toList.drop (T.d+off)).take (len * i.size)=O' at hold hol hsplit;rw[hsplit,<-aU,Zq (by simp only[Pq];omega),Nw (l:=O'++new') (by simp only[Pq];omega)];exact hold.append hn1
            ·show arr'.size=T.d+off+(T.r - off);have:arr'.toList.length=arr.size:=by
              rw[r3];unfold Bi
              simp only[Pq,Rg,Tx,ax];omega
             rw[ax]at this;omega
            ·intro _ j hj;refine hfz rfl j ?_;have hsame:arr'.size=arr.size->(j < arr.size∨(j=arr.size/\i.size≠1)):=fun e=>by rw[<-e];exact hj
             refine hsame ?_;have:arr'.toList.length=arr.size:=by
              rw[r3];unfold Bi
              simp only[Pq,Rg,Tx,ax];omega
             rw[ax]at this;omega
         ·refine hgrow _ len cap' _ (H.del b) hdel hdelE hfit b3 b4 b1 ?_;have hsrcq:∃q,EM i.size (.slice (some ⟨b,off,none⟩) len cap) H=some (len,q)/\q=(cs.drop off).take (len * i.size):=by
           unfold EM;cases hz0:Nat.beq (len * i.size) 0
           ·simp only[hz0,EB,hget];rw[show Nat.beq ((cs.drop off).take (len * i.size)).length (len * i.size)=true by rw[b1];exact VX _];exact⟨_,rfl,rfl⟩
           ·simp only[hz0,C8];have hz0:=DN hz0;exact⟨[],rfl,by rw[hz0];simp⟩
          obtain⟨q,hq1,hq2⟩:=hsrcq;obtain⟨_,ol,old',o1,o2⟩:=Gy (P:=P) (h.drawn (W.drawn+1)) (AH.slice b off len cap cap' o' T hm hcr ho) hq1 (GO len);rw[Nw (by omega),hq2]at o1;exact⟨old',o1,o2⟩
      ·cases hi
     ·cases hi
    ·simp only[hx2,C8]at hi;have hx2:=BE hx2;cases hs with
     | CN=>unfold GN at hi;simp at hi
     | Bk=>unfold GN at hi;simp at hi
     | DW=>unfold GN at hi;simp at hi
     | Cl=>unfold GN at hi;simp at hi
     | F9=>unfold GN at hi;simp at hi
     | slice b o _ _ cap' o' T hm hcr ho=>
      refine hin cap' rfl ?_ hi;rcases hcr with⟨c1,c2⟩ | ⟨c1,c2,c3,c4,c5⟩<;>omega
   ·simp only[hx1,C8]at hi;have hx1:cap < Aa:=BE hx1;cases hx2:Nat.ble (len+n) cap
    ·simp only[hx2,EB]at hi;have hx2:¬len+n<=cap:=fun hh=>by rw[Ez hh]at hx2;cases hx2
     unfold Nd at hi;split at hi
     ·rename_i m GK hso;cases hbb:(Nat.ble ((2 * (len+n)+192) * i.bytes) 281474976710656&&Nat.ble (len+n) 4611686018427387904)
      ·simp only[hbb,EB]at hi;cases hi
      ·simp only[hbb,C8,C5,Si]at hi;obtain⟨rfl,rfl⟩:=hi;simp only[Dg]at hbb;have b1:=BE hbb.1;have b2:=BE hbb.2;have hlen2:=(Gy (P:=P) h hs hso (ay m)).1;cases hs with
       | Bk=>simp[EM]at hso
       | DW=>simp[EM]at hso
       | Cl=>simp[EM]at hso
       | F9=>simp[EM]at hso
       | CN=>
        have hml:len=m:=by simpa [Builtin.lenOf] using hlen2
        subst hml;obtain⟨_,ol,old',o1,o2⟩:=Gy (P:=P) (h.drawn (W.drawn+1)) (AH.CN len cap) hso (GO len);rw[Nw (by omega)]at o1;exact hgrow none len cap GK H h (Ap.refl _ _) hx2 b1 b2 ol ⟨old',o1,o2⟩
       | slice b o _ _ cap' o' T hm hcr ho=>
        have hml:len=m:=by simpa [Builtin.lenOf] using hlen2
        subst hml;have hce:cap'=cap:=by rcases hcr with⟨_,c2⟩ | ⟨c1,_⟩<;>omega
        subst hce;obtain⟨_,ol,old',o1,o2⟩:=Gy (P:=P) (h.drawn (W.drawn+1)) (AH.slice b o len cap' cap' o' T hm hcr ho) hso (GO len);rw[Nw (by omega)]at o1;exact hgrow _ len cap' GK H h (Ap.refl _ _) hx2 b1 b2 ol ⟨old',o1,o2⟩
     ·cases hi
    ·simp only[hx2,C8]at hi;have hx2:=BE hx2;cases hs with
     | CN=>unfold GN at hi;simp at hi
     | Bk=>unfold GN at hi;simp at hi
     | DW=>unfold GN at hi;simp at hi
     | Cl=>unfold GN at hi;simp at hi
     | F9=>unfold GN at hi;simp at hi
     | slice b o _ _ cap' o' T hm hcr ho=>
      refine hin cap' rfl ?_ hi;rcases hcr with⟨c1,c2⟩ | ⟨c1,c2,c3,c4,c5⟩<;>omega
  ·simp only[hn0,C8]at hi;have hn0:=DN hn0;subst hn0;have hnew:new'=[]:=by
    have:=hn1.length;rw[hnl]at this;exact Ss (by omega)
   subst hnew;cases hle:Nat.ble len cap
   ·simp[hle]at hi
   ·simp only[hle,C8,C5,Si]at hi;obtain⟨rfl,rfl⟩:=hi;have hle:=BE hle;cases hs with
    | Bk b j _ _ cap' o' T hm hcr ho hr=>
     refine⟨μ,_,W,hinR _ _ _ _ ?_ (fun a ha=>rfl) (fun ha=>by cases ha),h,.Bk b j _ _ _ o' T hm hcr ho hr,Ap.refl _ _⟩;rcases hcr with⟨c1,c2⟩ | ⟨c1,c2,c3,c4,c5⟩<;>omega
    | CN=>
     exact⟨μ,_,W,hinR _ _ _ _ hle (fun a ha=>by cases ha) (fun _=>rfl),h,.CN _ _,Ap.refl _ _⟩
    | Cl b j _ _ cap' o' T M hm hm2 hcr ho hr=>
     refine⟨μ,_,W,hinR _ _ _ _ ?_ (fun a ha=>rfl) (fun ha=>by cases ha),h,.Cl b j _ _ _ o' T M hm hm2 hcr ho hr,Ap.refl _ _⟩;rcases hcr with⟨c1,c2⟩ | ⟨c1,c2,c3,c4,c5⟩<;>omega
    | F9 b j cap T a hm hc=>
     exact⟨μ,_,W,hinR _ _ _ _ (GO _) (fun a ha=>rfl) (fun _=>rfl),h,.F9 b j cap T a hm hc,Ap.refl _ _⟩
    | DW b j cap T a hm hc=>
     exact⟨μ,_,W,hinR _ _ _ _ (GO _) (fun a ha=>rfl) (fun _=>rfl),h,.DW b j cap T a hm hc,Ap.refl _ _⟩
    | slice b o _ _ cap' o' T hm hcr ho=>
     refine⟨μ,_,W,hinR _ _ _ _ ?_ (fun a ha=>rfl) (fun ha=>by cases ha),h,.slice b o _ _ _ o' T hm hcr ho,Ap.refl _ _⟩;rcases hcr with⟨c1,c2⟩ | ⟨c1,c2,c3,c4,c5⟩<;>omega
 ·cases hi
theorem w0 {argTypes:Array TypeId} {ty sT xT e:TypeId} {k:IntKind} {i:TypeInfo} {n:Nat} {kx:IntKind} {zz:Value} {z:AL} (hz4:zz.cells.toList=z) (hfl:flat zz=true)
 (ht:argTypes.toList=[sT,xT]) (hu:P.underlying sT=some (.slice e)) (hux:P.underlying xT=some (.int k)) (hi:P.info? e=some i) (hz:i.zero=some zz) (hzl:zz.cells.size=i.size) (hb:n * i.bytes<=281474976710656) (hn:n<=9223372036854775807):
 MY P μ W argTypes ty e i zz (.int kx (Int.ofNat n)) n (Dn z (n * z.length)):=by
 obtain rfl:argTypes=#[sT,xT]:=by rw[<-yi];simpa using ht
 have hw:IntKind.i64.wrap (n:Int)=(n:Int):=by rw[IntKind.wrap_i64];omega
 have hnb:¬(281474976710656 < (n:Int) * (i.bytes:Int)):=by
  have:((n * i.bytes:Nat):Int)<=281474976710656:=by omega
  rw[Int.natCast_mul]at this;omega
 have hn0:¬((n:Int) < 0):=by omega
 have hzn:z.length=zz.cells.size:=by rw[<-hz4];simp
 have hlr:Am μ (Dn z (n * z.length)) (Builtin.zeroCells zz.cells n).toList:=by
  have:=JN (μ:=μ) hfl hz4 (n * z.length);rw[hzn]at this ⊢;exact this
 have hz0:n * i.size=0->(Builtin.zeroCells zz.cells n)=#[]:=by
  intro h0;apply Array.eq_empty_of_size_eq_zero
  rw[Eh,hzl,h0]
 refine⟨⟨_,hlr,fun bs len cap w' hc hst hno=>?_⟩,⟨_,hlr,fun bs len cap lo hnc hbig hbig2 hfo=>?_⟩⟩
 ·by_cases h0:n * i.size=0
  ·rw[hz0 h0]at hst;cases bs with
   | none=>
    obtain rfl:=hno rfl;simp[Builtin.append_,run_underlying hu,run_underlying hux,sizeOf,typeInfo,hi,asInt,asIntOf,hw,hnb,hn0,hc,h0]
   | some a=>
    have hst:=hst a rfl;simp[Builtin.append_,run_underlying hu,run_underlying hux,sizeOf,typeInfo,hi,asInt,asIntOf,hw,hnb,hn0,hc,h0,hst]
  ·cases bs with
   | none=>
    obtain rfl:=hno rfl;simp[Builtin.append_,run_underlying hu,run_underlying hux,sizeOf,typeInfo,zeroValue,hi,hz,asInt,asIntOf,hw,hnb,hn0,hc]
   | some a=>
    have hst:=hst a rfl;simp[Builtin.append_,run_underlying hu,run_underlying hux,sizeOf,typeInfo,zeroValue,hi,hz,asInt,asIntOf,hw,hnb,hn0,hc,h0,hst]
 ·have hnc':=Ja (need:=len+n) (cap:=cap) (by omega);have h48:¬(281474976710656 < Builtin.nextslicecap (len+n) cap * i.bytes):=by
   have:=di i.bytes hnc';omega
  have h63:¬(9223372036854775807 < ((len:Int)+(n:Int))):=by omega
  refine⟨grownCap W (len+n) cap e,by simp[grownCap,Question.cut],by simp only[grownCap,Question.cut];have:=AAd (W.tape W.drawn (.appendCap (len+n) cap e)) (y:=2 ^ 63 - (len+n)) (by omega);omega,?_⟩
  by_cases h0:n * i.size=0
  ·rw[hz0 h0];simp[Builtin.append_,run_underlying hu,run_underlying hux,sizeOf,typeInfo,zeroValue,hi,hz,asInt,asIntOf,hw,hnb,hn0,hnc,h63,h48,Question.forced,h0,hfo,newRow,grownCap]
  ·simp[Builtin.append_,run_underlying hu,run_underlying hux,sizeOf,typeInfo,zeroValue,hi,hz,asInt,asIntOf,hw,hnb,hn0,hnc,h63,h48,Question.forced,h0,hfo,newRow,grownCap]
theorem TC (h:AJ base W0 μ H W) {argTypes:Array TypeId} {ty sT xT e:TypeId} {i:TypeInfo} {zz x x':Value} {n:Nat} {new:AL} (hty:argTypes.toList=[sT,xT]) (hu:P.underlying sT=some (.slice e)) (hss:DM (P.underlying xT)=true)
 (hie:P.info? e=some i) (q2:i.zero=some zz) (hx:AH μ x x') (hsrc:EM i.size x H=some (n,new)):MY P μ W argTypes ty e i zz x' n new:=by
 obtain⟨d,hux,hd⟩:=Gg hss;obtain⟨hlen,hnl,new',hn1,hn2⟩:=Gy (P:=P) h hx hsrc (GO n);rw[Nw (by omega)]at hn1;refine⟨⟨new',hn1,fun bs len cap w' hc hst hno=>Lo hty hu hux hd hie hlen hc hn2 hst hno⟩,?_⟩;obtain⟨_,_,new2,m1,m2⟩:=Gy (P:=P) (h.drawn (W.drawn+1)) hx hsrc (GO n);rw[Nw (by omega)]at m1;exact⟨new2,m1,fun bs len cap lo hnc hbig hbig2 o2=>JR (ty:=ty) (P:=P) (W:=W) (bs:=bs) (cap:=cap) hty hu hux hd hie q2 hlen hnc hbig hbig2 m2 o2⟩
theorem YO (h:AJ base W0 μ H W) {argTypes:Array TypeId} {args:AL} {args':BR} {ty:TypeId} {v:Value} {H':AA} (ha:Am μ args args'.toList) (hi:UE P argTypes args H=some (v,H')):
 ∃μ' v' W',(Builtin.append_ argTypes ty args').run P W= .ok v' W'/\AJ base W0 μ' H' W'/\AH μ' v v'/\Ap μ H μ' H':=by
 unfold UE at hi;split at hi
 ·rename_i sT xT s x hty;obtain⟨s',x',rfl,hs,hx⟩:∃s' x',args'=#[s',x']/\AH μ s s'/\AH μ x x':=by
   generalize hq:args'.toList=q at ha;cases ha with
   | cons h1 h2=>cases h2 with
    | cons h3 h4=>cases h4;exact⟨_,_,by rw[<-yi,hq],h1,h3⟩
  split at hi
  ·rename_i e hu;split at hi
   ·rename_i i z hie hz;obtain⟨i2,zz,q1,q2,q3,q4⟩:=HB hz;rw[hie]at q1;cases q1
    cases hint:ZS (P.underlying xT)
    case true=>
     simp only[hint,C8]at hi;split at hi
     ·rename_i n new hsz;cases hc:(new.all Bh&&Nat.beq z.length i.size)
      ·simp only[hc,EB]at hi;cases hi
      ·simp only[hc,C8]at hi;simp only[Dg]at hc;have hzl:=DN hc.2;obtain⟨k,hux⟩:∃k,P.underlying xT=some (.int k):=by
        unfold ZS at hint;split at hint
        ·rename_i k e;exact⟨k,e⟩
        ·cases hint
       unfold pV at hsz;split at hsz
       ·rename_i kx m;cases hbb:(Nat.ble (m * i.bytes) 281474976710656&&Nat.ble m 9223372036854775807)
        ·simp[hbb]at hsz
        ·simp only[hbb,C8,C5,Si]at hsz;obtain⟨rfl,rfl⟩:=hsz;simp only[Dg]at hbb;cases hx
         have hzsz:zz.cells.size=i.size:=by rw[<-hzl,<-q4];simp
         exact G9 (e:=e) h hs (w0 q4 q3 hty hu hux hie q2 hzsz (BE hbb.1) (BE hbb.2)) hzsz (by simp[Dn,hzl]) hc.1 hi
       ·cases hsz
     ·cases hi
    case false=>
    simp only[hint,EB]at hi;split at hi
    ·rename_i n new hsrc;cases hc:(DM (P.underlying xT)&&new.all Bh&&Nat.beq z.length i.size)
     ·simp only[hc,EB]at hi;cases hi
     simp only[hc,C8]at hi;simp only[Dg]at hc;obtain⟨⟨hss,hok⟩,hzl⟩:=hc;obtain⟨d,hux,hd⟩:=Gg hss;have hzl:=DN hzl;have hzsz:zz.cells.size=i.size:=by rw[<-hzl,<-q4];simp
     obtain⟨hlen,hnl,new',hn1,hn2⟩:=Gy (P:=P) h hx hsrc (GO n);rw[Nw (by omega)]at hn1;exact G9 (e:=e) h hs (TC h hty hu hss hie q2 hx hsrc) hzsz hnl hok hi
    ·cases hi
   ·cases hi
  ·cases hi
 ·cases hi
end
section
variable {P:Program} {base:Env} {W0:World} {μ:Ae} {H:AA} {W:World}
def iQ (P:Program) (argTypes:Array TypeId) (args:AL) (H:AA):Option (Value × AA):=
 match argTypes.toList,args with
 | dT::_,[.slice a dLen _,src]=>
  match P.underlying dT with
  | some (.slice e)=>
   match Dx P e with
   | some sz=>
    match EM sz src H with
    | some (n,l)=>
     let m:=Nat.min n dLen
     let new:=l.take (m * sz)
     bif Nat.beq (m * sz) 0 then some (.int .i64 (Int.ofNat m),H)else
     match a with
     | some ⟨b,off,none⟩=>
      match H.get b with
      | some (.cells cs e false)=>
       bif new.all Bh&&Nat.ble (off+new.length) cs.length then some (.int .i64 (Int.ofNat m),H.put b (.cells (Bi cs off new) e false))else none
      | _=>none
     | _=>none
    | none=>none
   | none=>none
  | _=>none
 | _,_=>none
theorem Uz {args:AL} {args':BR} {s x:Value} (ha:Am μ args args'.toList) (he:args=[s,x]):∃s' x',args'=#[s',x']/\AH μ s s'/\AH μ x x':=by
 subst he;generalize hq:args'.toList=q at ha;cases ha with
 | cons h1 h2=>cases h2 with
  | cons h3 h4=>cases h4;exact⟨_,_,by rw[<-yi,hq],h1,h3⟩
theorem aB {args:AL} {args':BR} {s:Value} (ha:Am μ args args'.toList) (he:args=[s]):∃s',args'=#[s']/\AH μ s s':=by
 subst he;generalize hq:args'.toList=q at ha;cases ha with
 | cons h1 h2=>cases h2;exact⟨_,by rw[<-yi,hq],h1⟩
theorem hU (h:AJ base W0 μ H W) {argTypes:Array TypeId} {args:AL} {args':BR} {ty:TypeId} {v:Value} {H':AA} (ha:Am μ args args'.toList) (hi:iQ P argTypes args H=some (v,H')):
 ∃v' W',(Builtin.copy_ argTypes ty args').run P W= .ok v' W'/\AJ base W0 μ H' W'/\AH μ v v'/\Ap μ H μ H':=by
 unfold iQ at hi;split at hi
 ·rename_i dT rest a dLen dCap src hty;obtain⟨s',x',rfl,hs,hx⟩:=Uz ha rfl;have ht0:argTypes[0]? = some dT:=by rw[<-Wt,hty];rfl
  split at hi
  ·rename_i e hu;split at hi
   ·rename_i sz hsz;split at hi
    ·rename_i n l hsrc;obtain⟨hlen,hll,l',r1,r2⟩:=Gy (P:=P) h hx hsrc (Nat.min_le_left n dLen);have hml:Nat.min n dLen * sz<=n * sz:=di _ (Nat.min_le_left _ _);have htl:(l.take (Nat.min n dLen * sz)).length=Nat.min n dLen * sz:=by rw[Rg];omega
     cases hz:Nat.beq (Nat.min n dLen * sz) 0
     ·simp only[hz,EB]at hi;split at hi
      ·rename_i b off;cases hs with
       | slice _ _ _ _ cap' o' T hm hcr ho=>
        split at hi
        ·rename_i cs ee hget;cases hbb:((l.take (Nat.min n dLen * sz)).all Bh&&Nat.ble (off+(l.take (Nat.min n dLen * sz)).length) cs.length)
         ·rw[hbb]at hi;cases hi
         ·rw[hbb]at hi;simp only[C8,C5,Si]at hi;obtain⟨rfl,rfl⟩:=hi;simp only[Dg]at hbb;have b2:=BE hbb.2;have hnz:Nat.min n dLen * sz≠0:=by intro e1;rw[e1]at hz;cases hz
          have hoo:o'=T.d+off:=by
           rcases ho with ho | ⟨h1,_⟩
           ·exact ho
           ·subst h1;exact absurd (by simp) hnz
          subst hoo;obtain⟨W',w1,w2,w3⟩:=AJ.UF P hm _ l' H W cs off 0 h hget r1 hbb.1 (by omega);refine⟨_,W',?_,w2,.int _ _,w3⟩;simp only[Builtin.copy_,ht0,ABa,tE,oA,Sem.run_bind,run_underlying hu,Result.andThen_ok,hlen,Bg hsz,r2,w1,Sem.run_pure,goInt];rfl
        ·cases hi
      ·cases hi
     ·simp only[hz,C8,C5,Si]at hi;obtain⟨rfl,rfl⟩:=hi;have hz:=DN hz;have hl0:l'=[]:=by
       have:=r1.length;rw[htl,hz]at this;exact Ss this.symm
      subst hl0;refine⟨.int .i64 (Int.ofNat (Nat.min n dLen)),W,?_,h,.int _ _,Ap.refl _ _⟩;cases hs with
      | CN=>simp[Builtin.copy_,ht0,run_underlying hu,hlen,Bg hsz,r2,goInt]
      | DW _ _ _ _ a=>
       rw[Nat.min_zero]at r2;cases a<;>simp[storeCells,Builtin.copy_,ht0,run_underlying hu,hlen,Bg hsz,r2,goInt]
      | Bk=>simp[Builtin.copy_,ht0,run_underlying hu,hlen,Bg hsz,r2,goInt,storeCells]
      | F9 _ _ _ _ a=>
       rw[Nat.min_zero]at r2;cases a<;>simp[storeCells,Builtin.copy_,ht0,run_underlying hu,hlen,Bg hsz,r2,goInt]
      | Cl=>simp[Builtin.copy_,ht0,run_underlying hu,hlen,Bg hsz,r2,goInt,storeCells]
      | slice=>simp[Builtin.copy_,ht0,run_underlying hu,hlen,Bg hsz,r2,goInt,storeCells]
    ·cases hi
   ·cases hi
  ·cases hi
 ·cases hi
def L9 (P:Program) (argTypes:Array TypeId) (args:AL) (H:AA):Option (Value × AA):=
 match argTypes.toList,args with
 | t::_,[.slice a n _]=>
  match P.underlying t with
  | some (.slice e)=>
   bif Nat.beq n 0 then some (Go.undef,H)else
   match IX P e,a with
   | some z,some ⟨b,off,none⟩=>
    match H.get b with
    | some (.cells cs e false)=>
     let new:=Dn z (n * z.length)
     bif new.all Bh&&Nat.ble (off+new.length) cs.length then some (Go.undef,H.put b (.cells (Bi cs off new) e false))else none
    | _=>none
   | _,_=>none
  | _=>none
 | _,_=>none
theorem Nq (h:AJ base W0 μ H W) {argTypes:Array TypeId} {args:AL} {args':BR} {ty:TypeId} {v:Value} {H':AA} (ha:Am μ args args'.toList) (hi:L9 P argTypes args H=some (v,H')):
 ∃v' W',(Builtin.clear_ argTypes ty args').run P W= .ok v' W'/\AJ base W0 μ H' W'/\AH μ v v'/\Ap μ H μ H':=by
 unfold L9 at hi;split at hi
 ·rename_i t rest a n cap hty;obtain⟨s',rfl,hs⟩:=aB ha rfl;have ht0:argTypes[0]? = some t:=by rw[<-Wt,hty];rfl
  split at hi
  ·rename_i e hu;cases hz:Nat.beq n 0
   ·simp only[hz,EB]at hi;have hn0:n≠0:=by intro e1;rw[e1]at hz;cases hz
    split at hi
    ·rename_i z b off hzl;obtain⟨zz,q1,q2,q3⟩:=Hr hzl W;cases hs with
     | slice _ _ _ _ cap' o' T hm hcr ho=>
      split at hi
      ·rename_i cs ee hget;cases hbb:((Dn z (n * z.length)).all Bh&&Nat.ble (off+(Dn z (n * z.length)).length) cs.length)
       ·simp only[hbb,EB]at hi;cases hi
       ·simp only[hbb,C8,C5,Si]at hi;obtain⟨rfl,rfl⟩:=hi;simp only[Dg]at hbb;have b2:=BE hbb.2;have hoo:o'=T.d+off:=by
         rcases ho with ho | ⟨h1,_⟩
         ·exact ho
         ·exact absurd h1 hn0
        subst hoo;have hl:=JN (μ:=μ) q2 q3 (n * z.length);obtain⟨W',w1,w2,w3⟩:=AJ.UF P hm _ _ H W cs off 0 h hget hl hbb.1 (by omega);refine⟨_,W',?_,w2,AH.undef μ,w3⟩;have hzc:(Builtin.zeroCells zz.cells n).toList=((Array.range (n * z.length)).map (zz.cells[· % zz.cells.size]!)).toList:=by
         have:zz.cells.size=z.length:=by rw[<-q3];simp
         simp only[Builtin.zeroCells,this]
        obtain⟨k,rfl⟩:∃k,n=k+1:=⟨n - 1,by omega⟩
        simp only[Builtin.clear_,ht0,ABa,tE,Sem.run_bind,run_underlying hu,Result.andThen_ok,q1,hzc,w1,Sem.run_pure];rfl
      ·cases hi
    ·cases hi
   ·simp only[hz,C8,C5,Si]at hi;obtain⟨rfl,rfl⟩:=hi;have hz:=DN hz;subst hz;refine⟨_,W,?_,h,AH.undef μ,Ap.refl _ _⟩;cases hs with
    | DW _ _ _ _ a=>cases a<;>simp[Builtin.clear_,ht0,run_underlying hu]<;>rfl
    | F9 _ _ _ _ a=>cases a<;>simp[Builtin.clear_,ht0,run_underlying hu]<;>rfl
    | _=>simp[Builtin.clear_,ht0,run_underlying hu]<;>rfl
  ·cases hi
 ·cases hi
def uF (P:Program) (t:TypeId) (x:Value):C1:=
 match P.underlying t,x with
 | some .string,.string s=>some (.int .i64 (Int.ofNat s.size))
 | some (.array n _),_=>some (.int .i64 (Int.ofNat n))
 | some (.slice _),.slice _ n _=>some (.int .i64 (Int.ofNat n))
 | _,_=>none
theorem o9 {argTypes:Array TypeId} {t ty:TypeId} {x x' v:Value} (hx:AH μ x x') (ht:argTypes[0]? = some t) (hi:uF P t x=some v):
 (Builtin.len_ argTypes ty #[x']).run P W= .ok v W/\∃n,v= .int .i64 n:=by
 unfold uF at hi;split at hi
 ·rename_i s hu;cases hx;cases hi;exact⟨by simp[Builtin.len_,ht,run_underlying hu,goInt],_,rfl⟩
 ·rename_i n e hu;cases hi;exact⟨by simp[Builtin.len_,ht,run_underlying hu,goInt],_,rfl⟩
 ·rename_i a n c hu;cases hi
  cases hx<;>exact⟨by simp[Builtin.len_,ht,run_underlying hu,goInt],_,rfl⟩
 ·cases hi
def Js (P:Program) (s:TypeId) (x:Value) (k:Nat):C1:=
 match P.underlying s,x with
 | some (.struct fields),.pointer (some ⟨b,off,none⟩)=>
  match fields.toList[k]? with
  | some f=>match Dx P f.type with
   | some n=>bif Nat.beq n 0 then none else some (.pointer (some ⟨b,off+f.offset,none⟩))
   | none=>none
  | none=>none
 | _,_=>none
theorem LY {s:TypeId} {x x' v:Value} {k:Nat} (hx:AH μ x x') (hi:Js P s x k=some v):∃v',(Instr.fieldAt s x' k).run P W= .ok v' W/\AH μ v v':=by
 unfold Js at hi;split at hi
 ·rename_i fields b off hu;cases hx with
  | ptr _ _ T hm=>
   split at hi
   ·rename_i f hf;split at hi
    ·rename_i n hn;cases hz:Nat.beq n 0
     ·simp only[hz,EB,C5]at hi;subst hi;have hnz:¬n=0:=by intro e1;rw[e1]at hz;cases hz
      have hf':fields[k]? = some f:=by rw[<-Wt];exact hf
      refine⟨_,?_,AH.ptr b (off+f.offset) T hm⟩;simp[Instr.fieldAt,run_underlying hu,hf',Instr.sureAddr,fieldPlace,Bg hn,hnz,add_eq,Nat.add_assoc]
     ·simp[hz]at hi
    ·cases hi
   ·cases hi
 ·cases hi
def Ow:Value->Option Nat
 | .int _ (.ofNat k)=>some k
 | _=>none
def GW (P:Program) (t:TypeId) (x ix:Value):C1:=
 match Ow ix,P.underlying t,x with
 | some k,some (.array n e),.pointer (some ⟨b,off,none⟩)=>
  match Dx P e with
  | some sz=>bif Nat.blt k n then some (.pointer (some ⟨b,off+k * sz,none⟩))else none
  | none=>none
 | some k,some (.slice e),.slice (some ⟨b,off,none⟩) n _=>
  match Dx P e with
  | some sz=>bif Nat.blt k n then some (.pointer (some ⟨b,off+k * sz,none⟩))else none
  | none=>none
 | _,_,_=>none
theorem NA {v:Value} {k:Nat} (h:Ow v=some k):∃kd,v= .int kd (Int.ofNat k):=by
 unfold Ow at h;split at h
 ·cases h;exact⟨_,rfl⟩
 ·cases h
theorem Gu {t:TypeId} {x x' ix ix' v:Value} (hx:AH μ x x') (hix:AH μ ix ix') (hi:GW P t x ix=some v):∃v',(Instr.indexAt t x' ix').run P W= .ok v' W/\AH μ v v':=by
 unfold GW at hi;split at hi
 ·rename_i k n e b off hk hu;obtain⟨kd,rfl⟩:=NA hk;cases hix
  cases hx with
  | ptr _ _ T hm=>
   split at hi
   ·rename_i sz hsz;cases hlt:Nat.blt k n
    ·simp[hlt]at hi
    ·simp only[hlt,C8,C5]at hi;subst hi;have hlt:k < n:=BE hlt;refine⟨_,?_,AH.ptr b (off+k * sz) T hm⟩;have hc:(0:Int)<=Int.ofNat k/\Int.ofNat k < (n:Int):=⟨by simp,by have:=Int.ofNat_lt.2 hlt;simpa using this⟩;simp only[Instr.indexAt,asIntOf,Sem.run_bind,Sem.run_pure,Result.andThen_ok,run_underlying hu,Instr.sureAddr,MB hc,Bg hsz,add_eq];simp[Nat.add_assoc]
   ·cases hi
 ·rename_i k e b off n c hk hu;obtain⟨kd,rfl⟩:=NA hk;cases hix
  cases hx with
  | slice _ _ _ _ cap' o' T hm hcr ho=>
   split at hi
   ·rename_i sz hsz;cases hlt:Nat.blt k n
    ·simp[hlt]at hi
    ·simp only[hlt,C8,C5]at hi;subst hi;have hlt:k < n:=BE hlt;have hoo:o'=T.d+off:=by
      rcases ho with ho | ⟨h1,_⟩
      ·exact ho
      ·omega
     subst hoo;refine⟨_,?_,AH.ptr b (off+k * sz) T hm⟩;have hc:(0:Int)<=Int.ofNat k/\Int.ofNat k < (n:Int):=⟨by simp,by have:=Int.ofNat_lt.2 hlt;simpa using this⟩;simp only[Instr.indexAt,asIntOf,Sem.run_bind,Sem.run_pure,Result.andThen_ok,run_underlying hu,MB hc,Bg hsz,add_eq];simp[Nat.add_assoc]
   ·cases hi
 ·cases hi
def Wv (P:Program) (t:TypeId) (cs:AL) (off:Nat):C1:=
 match P.underlying t,Dx P t with
 | some d,some n=>
  bif E4 d then some (.agg ⟨(cs.drop off).take n⟩)else cs[off]?
 | _,_=>none
theorem XK {t:TypeId} {cs:AL} {cs':BR} {off:Nat} {v:Value} (hc:Am μ cs cs'.toList) (hi:Wv P t cs off=some v):∃v',(part t cs' off).run P W= .ok v' W/\AH μ v v':=by
 unfold Wv at hi;split at hi
 ·rename_i d n hd hn;cases hagg:E4 d
  ·simp only[hagg,EB]at hi;obtain⟨v',h1,h2⟩:=hc.get? hi;refine⟨v',?_,h2⟩;rw[Wt]at h1;simp[part,Jp hd,hagg,h1]
  ·simp only[hagg,C8,C5]at hi;subst hi;refine⟨.agg (cs'.extract off (off+n)),?_,AH.Ce.2 ⟨_,rfl,?_⟩⟩
   ·simp[part,Jp hd,hagg,Bg hn]
   ·rw[ABb,ABJ];have:off+n - off=n:=by omega
    rw[this];exact(hc.drop off).take n
 ·cases hi
def ZX (P:Program) (t:TypeId) (x:Value) (k:Nat):C1:=
 match P.underlying t,x with
 | some (.struct fields),.agg cs=>match fields.toList[k]? with
  | some f=>Wv P f.type cs.toList f.offset
  | none=>none
 | _,_=>none
theorem cL {t:TypeId} {x x' v:Value} {k:Nat} (hx:AH μ x x') (hi:ZX P t x k=some v):∃v',(Instr.field t x' k).run P W= .ok v' W/\AH μ v v':=by
 unfold ZX at hi;split at hi
 ·rename_i fields cs hu;obtain⟨cs',rfl,hl⟩:=AH.Ce.1 hx;split at hi
  ·rename_i f hf;have hf':fields[k]? = some f:=by rw[<-Wt];exact hf
   obtain⟨v',h1,h2⟩:=XK (P:=P) (W:=W) hl hi;refine⟨v',?_,h2⟩;simp[Instr.field,run_underlying hu,hf',asAgg,h1]
  ·cases hi
 ·cases hi
def RF (P:Program) (t:TypeId) (x ix:Value):C1:=
 match Ow ix,P.underlying t,x with
 | some k,some (.array n e),.agg cs=>
  match Dx P e with
  | some sz=>bif Nat.blt k n then Wv P e cs.toList (k * sz)else none
  | none=>none
 | some k,some .string,.string s=>
  match s.data.toList[k]? with
  | some b=>some (.int .u8 b.toNat)
  | none=>none
 | _,_,_=>none
theorem OO {t:TypeId} {x x' ix ix' v:Value} (hx:AH μ x x') (hix:AH μ ix ix') (hi:RF P t x ix=some v):∃v',(Instr.index t x' ix').run P W= .ok v' W/\AH μ v v':=by
 unfold RF at hi;split at hi
 ·rename_i k n e cs hk hu;obtain⟨kd,rfl⟩:=NA hk;cases hix
  obtain⟨cs',rfl,hl⟩:=AH.Ce.1 hx;split at hi
  ·rename_i sz hsz;cases hlt:Nat.blt k n
   ·simp[hlt]at hi
   ·simp only[hlt,C8]at hi;have hlt:k < n:=BE hlt;obtain⟨v',h1,h2⟩:=XK (P:=P) (W:=W) hl hi;refine⟨v',?_,h2⟩;have hc:(0:Int)<=Int.ofNat k/\Int.ofNat k < (n:Int):=⟨by simp,by have:=Int.ofNat_lt.2 hlt;simpa using this⟩;simp only[Instr.index,asIntOf,Sem.run_bind,Sem.run_pure,Result.andThen_ok,run_underlying hu,MB hc,Bg hsz];exact h1
  ·cases hi
 ·rename_i k s hk hu;obtain⟨kd,rfl⟩:=NA hk;cases hix;cases hx
  split at hi
  ·rename_i b hb;cases hi
   refine⟨_,?_,.int _ _⟩;rw[Wt]at hb;have hlt:k < s.size:=by
    have:=(Array.getElem?_eq_some_iff.1 hb).1;exact this
   have hb':s[k]? = some b:=by
    rw[getElem?_pos s k hlt];have:=(Array.getElem?_eq_some_iff.1 hb).2;rw[<-this];rfl
   simp[Instr.index,asIntOf,run_underlying hu,hb']
  ·cases hi
 ·cases hi
end
section
variable {P:Program} {base:Env} {W0:World} {μ:Ae} {H:AA} {W:World}
def Pn:Value->Option Int
 | .int .u8 n=>some n
 | _=>none
def HE:AL->Option (Ad)
 | []=>some []
 | v::r=>match Pn v,HE r with
  | some n,some l=>some (n::l)
  | _,_=>none
theorem PD:∀(l:AL) (ns:Ad),HE l=some ns->l=ns.map (Value.int .u8)
 | [],ns,h=>by simp[HE]at h;subst h;rfl
 | v::r,ns,h=>by
  simp only[HE]at h;cases hv:Pn v with
  | none=>simp[hv]at h
  | some n=>
   cases hr:HE r with
   | none=>simp[hv,hr]at h
   | some l=>
    simp only[hv,hr,C5]at h;subst h;have:v= .int .u8 n:=by
     unfold Pn at hv;split at hv
     ·cases hv;rfl
     ·cases hv
    rw[this,PD r l hr];rfl
theorem XS:∀(ns:Ad) (l':AL),Am μ (ns.map (Value.int .u8)) l'->l'=ns.map (Value.int .u8)
 | [],l',h=>by cases h;rfl
 | n::ns,l',h=>by
  simp only[Sm]at h ⊢;cases h with
  | cons hv ht=>cases hv;rw[XS ns _ ht]
theorem foldl_push:∀(ns:Ad) (r:As),ns.foldl (fun r n=>r.push (UInt8.ofNat n.toNat)) r=⟨⟨r.data.toList++ns.map fun n=>UInt8.ofNat n.toNat⟩⟩
 | [],r=>by simp
 | n::ns,r=>by
  rw[ABD,foldl_push ns];simp[ByteArray.push,Array.push]
def I8 (P:Program) (src dst:TypeId) (x:Value) (H:AA):Option (Value × AA):=
 match P.underlying src,P.underlying dst,x with
 | some (.slice e),some .string,.slice a n c=>
  match P.underlying e with
  | some (.int .u8)=>
   match a with
   | none=>some (.string ⟨⟨[]⟩⟩,H)
   | some _=>
    match EM 1 (.slice a n c) H with
    | some (_,l)=>match HE l with
     | some ns=>some (.string ⟨⟨ns.map fun n=>UInt8.ofNat n.toNat⟩⟩,H)
     | none=>none
    | none=>none
  | _=>none
 | some .string,some (.slice e),.string s=>
  match P.underlying e with
  | some (.int .u8)=>some (.slice (some ⟨H.next,0,none⟩) s.size (Aa+s.size),H.alloc (.cells (s.data.toList.map fun b=> .int .u8 b.toNat) 1 false))
  | _=>none
 | _,_,_=>none
def FA (s:As) (cap:Nat):BR:=(s.data.map fun b=>Value.int .u8 b.toNat)++Array.replicate (cap - s.size) (Value.int .u8 0)
theorem Iu {s:As} {cap:Nat} (h:s.size<=cap):(FA s cap).size=cap:=by
 have:s.data.size=s.size:=rfl;simp[FA];omega
theorem KV (h:AJ base W0 μ H W) {src dst:TypeId} {x x' v:Value} {H':AA} (hx:AH μ x x') (hi:I8 P src dst x H=some (v,H')):
 ∃μ' v' W',(convert src dst x').run P W= .ok v' W'/\AJ base W0 μ' H' W'/\AH μ' v v'/\Ap μ H μ' H':=by
 unfold I8 at hi;split at hi
 ·rename_i e a n c hu1 hu2;split at hi
  ·rename_i hue;split at hi
   ·cases hi
    cases hx
    refine⟨μ,_,W,?_,h,.string _,Ap.refl _ _⟩;simp[convert,run_underlying hu1,run_underlying hu2,run_underlying hue,Conv.bytesToString];rfl
   ·rename_i a0;split at hi
    ·rename_i m l hs;split at hi
     ·rename_i ns Pr;cases hi
      have hl:=PD l ns Pr;obtain⟨hlen,hll,l',r1,r2⟩:=Gy (P:=P) h hx hs (GO m);rw[Nw (by omega),hl]at r1;have hl':=XS ns l' r1;subst hl';cases hx with
      | Bk=>simp[EM]at hs
      | DW=>simp[EM]at hs
      | Cl=>simp[EM]at hs
      | F9=>simp[EM]at hs
      | slice b o _ _ cap' o' T hm hcr ho=>
       have hmn:n=m:=by simpa [Builtin.lenOf] using hlen
       subst hmn;simp only[Builtin.firstCells,AAo]at r2;refine⟨μ,_,W,?_,h,.string _,Ap.refl _ _⟩;have:=run_bytesToString (P:=P) W ⟨T.c,o',none⟩ n cap' ns r2;rw[foldl_push]at this;simp[convert,run_underlying hu1,run_underlying hu2,run_underlying hue,this]
     ·cases hi
    ·cases hi
  ·cases hi
 ·rename_i e s hu1 hu2;split at hi
  ·rename_i hue;cases hi
   cases hx
   have hcut:∃cap,s.size<=cap/\(convert src dst (.string s)).run P W= .ok (.slice (some ⟨W.heap.size,0,none⟩) s.size cap)
    (W.drew.alloc (.cells (FA s cap) e (cap,cap+1))):=by
    refine⟨(Question.appendCap s.size 0 e).cut (W.tape W.drawn (.appendCap s.size 0 e)),by simp[Question.cut],?_⟩;generalize hq:(Question.appendCap s.size 0 e).cut (W.tape W.drawn (.appendCap s.size 0 e))=cap;have hge:s.size<=cap:=by rw[<-hq];simp[Question.cut]
    have hsize:=Iu hge;have hf:Question.forced (.appendCap s.size 0 e)=false:=rfl;have hsh:(W.drew.alloc (.cells (FA s cap) e)).shape? W.heap.size=some (e,cap):=by
     unfold World.shape?;have:(W.drew.alloc (.cells (FA s cap) e)).heap[W.heap.size]? = some (.cells (FA s cap) e):=by
      show(W.heap.push _)[W.heap.size]? = _;simp
     rw[this];simp only[hsize]
    have hfr:(W.drew.alloc (.cells (FA s cap) e)).freeze { block:=W.heap.size,off:=cap } 1=
     W.drew.alloc (.cells (FA s cap) e (cap,cap+1)):=by
     unfold World.freeze;rw[JT (by decide)];show World.mk ((W.heap.push _).modify W.heap.size _) _ _ _ _=World.mk (W.heap.push _) _ _ _ _
     congr 1
     apply Array.ext_getElem?
     intro j;rw[ABo,AAg,AAg]
     by_cases hj:W.heap.size=j
     ·subst hj;simp
     ·simp[hj,Ne.symm hj]
    simp only[convert,run_underlying hu1,run_underlying hu2,run_underlying hue,Sem.run_bind,Result.andThen_ok,Conv.stringToBytes,run_choose,hf,hq,newRow,run_newObj,Sem.run_pure,markStringish,run_shape,Bool.false_eq_true,ABC,World.drew_eq,World.alloc_eq];rw[show(W.drew.heap.size)=W.heap.size from rfl];have hsh':=hsh;unfold FA at hsh' hfr;rw[hsh'];simp only[run_freeze,Result.andThen_ok];rw[hfr];rfl
   obtain⟨cap,hge,hrun⟩:=hcut;have hal:=(h.drawn (W.drawn+1)).alloc (T:=⟨W.heap.size,0,cap,1⟩) (o:= .cells (s.data.toList.map fun b=> .int .u8 b.toNat) 1 false) (o':= .cells (FA s cap) e (cap,cap+1)) rfl ?_
   ·exact⟨_,_,_,hrun,hal.1,Eg _ _ rfl _ _ _ (.inr ⟨by omega,by omega,hge,by show 0+cap * 1<=cap;omega,.inl rfl⟩),hal.2⟩
   ·have hsz:s.data.size=s.size:=rfl;refine .cells ⟨W.heap.size,0,cap,1⟩ _ _ false _ e cap (cap+1) rfl ?_ ?_ ?_
    ·simp only[FA,bl,pJ,re,oB,ax];rw[Zq (by simp),Nw (by simp)];exact Am.map _ _ _ fun b _=> .int _ _
    ·rw[Iu hge];show cap=0+cap;omega
    ·intro _ j hj;rw[Iu hge]at hj;omega
  ·cases hi
 ·cases hi
def ZO (P:Program) (t:TypeId) (x:Value) (H:AA):Option (Value × AA):=
 match P.underlying t,x with
 | some .string,.string s=>some (.pointer (some ⟨H.next,0,none⟩),H.alloc (.Ca s 0))
 | _,_=>none
theorem dh (h:AJ base W0 μ H W) {t:TypeId} {x x' v:Value} {H':AA} (hx:AH μ x x') (hi:ZO P t x H=some (v,H')):
 ∃μ' v' W',(Instr.range t x').run P W= .ok v' W'/\AJ base W0 μ' H' W'/\AH μ' v v'/\Ap μ H μ' H':=by
 unfold ZO at hi;split at hi
 ·rename_i s hu;cases hi;cases hx
  have hal:=h.alloc (T:=⟨W.heap.size,0,0,0⟩) (o:= .Ca s 0) (o':= .stringIter s 0) rfl (.Ca _ s 0 rfl);exact⟨_,_,_,by simp[Instr.range,run_underlying hu],hal.1,Mu ⟨W.heap.size,0,0,0⟩ _ rfl,hal.2⟩
 ·cases hi
def ak (it:Value) (isString:Bool) (H:AA):Option (Value × AA):=
 match it,isString with
 | .pointer (some ⟨r,0,none⟩),true=>
  match H.get r with
  | some (.Ca s pos)=>
   bif Nat.blt pos s.size then
    match Utf8.decode s pos with
    | (c,width)=>some (.tuple ⟨[.bool true,.int .i64 (Int.ofNat pos),.int .i32 c]⟩,H.put r (.Ca s (pos+width)))
   else some (.tuple ⟨[.bool false]⟩,H)
  | _=>none
 | _,_=>none
theorem KF {w:World} {r:Nat} {o:Obj} (h:w.heap[r]? = some o) (hn:∀c t f,o≠ .cells c t f):(getObj r).run P w= .ok o w:=by
 cases o with
 | cells c t f=>exact absurd rfl (hn c t f)
 | _=>simp only[getObj,Sem.run,h]
theorem HG {w:World} {r:Nat} {o o1:Obj} (h:w.heap[r]? = some o) (hn:∀c t f,o≠ .cells c t f):(setObj r o1).run P w= .ok () { w with heap:=w.heap.setIfInBounds r o1 }:=by
 cases o with
 | cells c t f=>exact absurd rfl (hn c t f)
 | _=>simp only[setObj,Sem.run,h]
theorem AJ.setObj (h:AJ base W0 μ H W) {b:Nat} {T:Bc} {o o1:AP} {o1':Obj} (hb:H.get b=some o) (hro:o.ro=false) (hm:μ b=some T) (ho:CZ μ T o1 o1') (hna1:o1.isAbs=false:=by rfl) (hsol:¬o.void T:=by exact id):
 AJ base W0 μ (H.put b o1) { W with heap:=W.heap.setIfInBounds T.c o1' }/\Ap μ H μ (H.put b o1):=by
 have hlt:=h.bound b T hm;refine h.update hb hro hm (by simp) (fun i hi=>?_) ?_ ho rfl rfl hna1 hsol
 ·rw[lV,JT (gi hi)]
 ·rw[lV];simp[hlt]
theorem VA (h:AJ base W0 μ H W) {it it' v:Value} {isString:Bool} {ty:TypeId} {H':AA} (hx:AH μ it it') (hi:ak it isString H=some (v,H')):
 ∃v' W',(Instr.next it' isString ty).run P W= .ok v' W'/\AJ base W0 μ H' W'/\AH μ v v'/\Ap μ H μ H':=by
 unfold ak at hi;split at hi
 ·rename_i r;cases hx with
  | ptr _ _ T hm=>
   split at hi
   ·rename_i s pos hget;obtain⟨o',ho',hor⟩:=h.obj r _ hget T hm;cases hor with
    | Ca _ _ hd0=>
     have hg:=KF (P:=P) ho' (by intro c t f;simp);rw[hd0];cases hlt:Nat.blt pos s.size
     ·simp only[hlt,EB,C5,Si]at hi;obtain⟨rfl,rfl⟩:=hi;have hnl:¬pos < s.size:=fun hh=>by rw[show Nat.blt pos s.size=true from Ez hh]at hlt;cases hlt
      exact⟨_,W,by simp[Instr.next,hg,hnl],h,AH.CE.2 ⟨_,rfl,.cons (.bool _) .nil⟩,Ap.refl _ _⟩
     ·simp only[hlt,C8,C5,Si]at hi;obtain⟨rfl,rfl⟩:=hi;have hlt:pos < s.size:=BE hlt;obtain⟨g1,g2⟩:=h.setObj (o1:= .Ca s (pos+(Utf8.decode s pos).2)) (o1':= .stringIter s (pos+(Utf8.decode s pos).2)) hget rfl hm (.Ca _ _ _ hd0);refine⟨.tuple #[.bool true,goInt pos,.int .i32 (Utf8.decode s pos).1],_,?_,g1,AH.CE.2 ⟨_,rfl,.cons (.bool _) (.cons (.int _ _) (.cons (.int _ _) .nil))⟩,g2⟩;simp[Instr.next,hg,hlt,HG (P:=P) (o1:= .stringIter s (pos+(Utf8.decode s pos).2)) ho' (by intro c t f;simp)]
   ·cases hi
 ·cases hi
def Bn:Value->Option TypeDesc->Option Bool
 | .pointer a,some (.pointer _)=>some a.isNone
 | .slice none _ _,some (.slice _)=>some true
 | .slice (some ⟨_,_,none⟩) _ _,some (.slice _)=>some false
 | .map a,some (.map _ _)=>some a.isNone
 | .nilFunc,some (.func _ _ _)=>some true
 | .func _ _ _,some (.func _ _ _)=>some false
 | .nilIface,some (.interface _)=>some true
 | .iface _ _,some (.interface _)=>some false
 | _,_=>none
def GG:Value->Value->Bool
 | .nilIface,.nilIface=>true
 | _,_=>false
def IA (P:Program) (op:BinOp) (t:TypeId) (x y:Value):C1:=
 bif GG x y then none else
 match Bn x (P.underlying t),Bn y (P.underlying t)with
 | some a,some b=>
  bif a||b then
   match op with
   | .eql=>some (.bool (a&&b))
   | .neq=>some (.bool (!(a&&b)))
   | _=>none
  else none
 | _,_=>none
theorem Oq {x x':Value} {d:Option TypeDesc} {b:Bool} (hx:AH μ x x') (h:Bn x d=some b):Bn x' d=some b:=by
 cases d with
 | none=>simp[Bn]at h
 | some d=>cases d<;>cases hx<;>first | exact h | (simp[Bn,Bv]at h;done) | (simpa [Bn] using h)
theorem Yp {x x' y y':Value} {d:Option TypeDesc} {a b:Bool} (hx:AH μ x x') (hy:AH μ y y') (ha:Bn x d=some a) (hb:Bn y d=some b) (h:GG x y=false):GG x' y'=false:=by
 cases hx<;>first | rfl | (simp[Bn,Bv]at ha;done) | skip
 cases hy<;>first | rfl | (simp[Bn,Bv]at hb;done) | cases h
theorem eR {t:TypeId} {d:TypeDesc} {x y:Value} {a b:Bool} (hu:P.underlying t=some d) (ha:Bn x (some d)=some a) (hb:Bn y (some d)=some b) (hab:(a||b)=true) (w:World):
 (Op.equal t x y).run P w= .ok (a&&b) w:=by
 obtain⟨k0,hd⟩:∃k0,Op.maxDepth=k0+1:=⟨9999,rfl⟩
 unfold Op.equal;rw[hd];clear hd;cases d<;>cases x<;>simp[Bn]at ha<;>cases y<;>simp[Bn]at hb
 ·rename_i e p q;subst ha;subst hb
  cases p<;>cases q<;>simp at hab<;>simp[Op.equalIn,run_underlying hu]
 ·rename_i e p _ _ q _ _;rcases p with _ | ⟨_,_,_ | _⟩<;>rcases q with _ | ⟨_,_,_ | _⟩<;>simp at ha hb<;>subst ha<;>subst hb<;>simp at hab<;>simp[Op.equalIn,run_underlying hu]
 ·rename_i k e p q;subst ha;subst hb
  cases p<;>cases q<;>simp at hab<;>simp[Op.equalIn,run_underlying hu]
 all_goals (subst ha;subst hb;first | (simp at hab;done) | simp[Op.equalIn,run_underlying hu])
theorem N5 {op:BinOp} {t:TypeId} {x y:Operand} {a b v:Value} (hi:IA P op t a b=some v) (w:World):
 (do eqGuard op t x y a b;binOp op t a b:Sem Value).run P w= .ok v w:=by
 unfold IA at hi;cases h2:GG a b
 case true=>rw[h2]at hi;cases hi
 rw[h2,EB]at hi;cases hu:P.underlying t with
 | none=>simp[hu,Bn]at hi
 | some d=>
  rw[hu]at hi;cases ha:Bn a (some d)with
  | none=>simp[ha]at hi
  | some p=>
   cases hb:Bn b (some d)with
   | none=>simp[ha,hb]at hi
   | some q=>
    simp only[ha,hb]at hi;cases hpq:(p||q)
    ·simp[hpq]at hi
    ·simp only[hpq,C8]at hi;have he:=eR hu ha hb hpq w;have hg:eqGuard op t x y a b=pure ():=by
      cases d<;>cases a<;>simp[Bn]at ha<;>cases b<;>simp[Bn]at hb<;>first | (cases h2;done) | simp[eqGuard] | (simp[eqGuard,Op.eqGuardIn,run_underlying hu];done)
     have hbo:op= .eql∨op= .neq:=by cases op<;>simp at hi<;>simp
     rw[hg];have hbin:∀r:BinOp,(r= .eql->binOp r t a b=(do pure (.bool (←Op.equal t a b))))/\(r= .neq->binOp r t a b=(do pure (.bool (!(←Op.equal t a b))))):=by
      intro r;refine⟨?_,?_⟩<;>rintro rfl<;>(cases d<;>cases a<;>simp[Bn]at ha<;>cases b<;>simp[Bn]at hb<;>rfl)
     rcases hbo with rfl | rfl
     ·simp only at hi;cases hi
      simp[(hbin .eql).1 rfl,he]
     ·simp only at hi;cases hi
      simp[(hbin .neq).2 rfl,he]
end
section
variable {P:Program} {base:Env} {W0:World} {μ:Ae} {H:AA} {W:World}
def JM:Op->Bool
 | .select ..=>true
 | _=>false
def H5 (P:Program) (ρ:Operand->Value) (o:Oper) (H:AA):Option (Value × AA):=
 bif o.op.operands.toList.all (fun x=>flat (ρ x))&& !(JM o.op)then
  match Mv P (execOp ρ o)with
  | some (.value v)=>bif flat v then some (v,H)else none
  | _=>none
 else none
def EN:Value->Bool
 | .chan _=>false
 | _=>true
def KT (P:Program) (ρ:Operand->Value) (o:Oper) (c:Call) (b:Builtin) (H:AA):Option (Value × AA):=
 match b with
 | .append=>UE P c.argTypes (c.args.toList.map ρ) H
 | .copy=>iQ P c.argTypes (c.args.toList.map ρ) H
 | .clear=>L9 P c.argTypes (c.args.toList.map ρ) H
 | .len=>match c.argTypes.toList,c.args.toList with
  | t::_,[x]=>match uF P t (ρ x)with
   | some v=>some (v,H)
   | none=>none
  | _,_=>none
 | _=>H5 P ρ o H
def PU (P:Program) (ρ:Operand->Value) (o:Oper) (H:AA):Option (Value × AA):=
 match o.op with
 | .move x=>some (ρ x,H)
 | .assign x=>some (ρ x,H)
 | .pick c a b=>match ρ c with
  | .bool t=>some (bif t then ρ a else ρ b,H)
  | _=>none
 | .extract t i=>match ρ t with
  | .tuple vs=>match vs.toList[i]? with
   | some v=>some (v,H)
   | none=>none
  | _=>none
 | .nilCheck x=>match ρ x with
  | .pointer (some a)=>some (.pointer (some a),H)
  | .func (.func f) a b=>some (.func (.func f) a b,H)
  | .func (.yield f) a b=>some (.func (.yield f) a b,H)
  | _=>none
 | .makeFunc fn first captured=>match fn with
  | .yield _=>none
  | fn=>some (.func fn ⟨first.toList.map ρ⟩ ⟨captured.toList.map ρ⟩,H)
 | .makeInterface t x=>match P.underlying t with
  | some (.interface _)=>none
  | some _=>some (.iface t (ρ x),H)
  | none=>none
 | .load t a=>match Mf P t (ρ a) H with
  | some v=>some (v,H)
  | none=>none
 | .store t a x=>match Qf P t (ρ a) (ρ x) H with
  | some H'=>some (Go.undef,H')
  | none=>none
 | .alloc t=>match IX P t with
  | some z=>some (.pointer (some ⟨H.next,0,none⟩),H.alloc (.cells z 0 false))
  | none=>none
 | .box _ x=>bif EN (ρ x)then some (.pointer (some ⟨H.next,0,none⟩),H.alloc (.cells (ρ x).cells.toList 0 false))else none
 | .build t parts=>bif parts.toList.all (fun p=>EN (ρ p.2))then
  match Y7 P t (parts.toList.map fun p=>(p.1,ρ p.2))with
  | some v=>some (v,H)
  | none=>none
  else none
 | .buildSlice t len parts=>bif Nat.blt len Aa&&parts.toList.all (fun p=>EN (ρ p.2))then Gz P t len (parts.toList.map fun p=>(p.1,ρ p.2)) H else none
 | .makeSlice t l c=>H9 P t (ρ l) (ρ c) H
 | .slice t x lo hi mx=>match Ji P t (ρ x) (lo.map ρ) (hi.map ρ) (mx.map ρ) H with
  | some v=>some (v,H)
  | none=>none
 | .fieldAddr s x k=>match Js P s (ρ x) k with
  | some v=>some (v,H)
  | none=>none
 | .field t x k=>match ZX P t (ρ x) k with
  | some v=>some (v,H)
  | none=>none
 | .indexAddr t x i=>match GW P t (ρ x) (ρ i)with
  | some v=>some (v,H)
  | none=>none
 | .index t x i=>match RF P t (ρ x) (ρ i)with
  | some v=>some (v,H)
  | none=>none
 | .range t x=>ZO P t (ρ x) H
 | .next it s=>ak (ρ it) s H
 | .binOp op t x y _=>match H5 P ρ o H with
  | some r=>some r
  | none=>match IA P op t (ρ x) (ρ y)with
   | some v=>some (v,H)
   | none=>none
 | .convert s d x=>match H5 P ρ o H with
  | some r=>some r
  | none=>I8 P s d (ρ x) H
 | .unOp _ _ _=>H5 P ρ o H
 | .call c=>match c.callee with
  | .builtin b=>KT P ρ o c b H
  | _=>none
 | _=>none
def Fin (nx:Next) (v:Value):Prop:=nx= .value v∨(nx= .skip/\v=Go.undef)
def CQ (P:Program) (base:Env) (W0:World) (μ:Ae) (H:AA) (W:World) (s:Sem Next) (v:Value) (H':AA):Prop:=
 ∃μ' nx v' W',s.run P W= .ok nx W'/\Fin nx v'/\AJ base W0 μ' H' W'/\AH μ' v v'/\Ap μ H μ' H'
theorem CQ.value (h:AJ base W0 μ H W) {s:Sem Value} {v:Value} (hs:∃v',s.run P W= .ok v' W/\AH μ v v'):CQ P base W0 μ H W (do pure (.value (←s))) v H:=by
 obtain⟨v',h1,h2⟩:=hs;exact⟨μ,.value v',v',W,by simp[h1],.inl rfl,h,h2,Ap.refl _ _⟩
theorem CQ.GY {s:Sem Value} {v:Value} {H':AA} (hs:∃μ' v' W',s.run P W= .ok v' W'/\AJ base W0 μ' H' W'/\AH μ' v v'/\Ap μ H μ' H'):CQ P base W0 μ H W (do pure (.value (←s))) v H':=by
 obtain⟨μ',v',W',h1,h2,h3,h4⟩:=hs;exact⟨μ',.value v',v',W',by simp[h1],.inl rfl,h2,h3,h4⟩
theorem K4 (h:AJ base W0 μ H W) {ρ ρ':Operand->Value} (hρ:∀x,AH μ (ρ x) (ρ' x)) {o:Oper} {v:Value} {H':AA} (hi:H5 P ρ o H=some (v,H')):CQ P base W0 μ H W (execOp ρ' o) v H':=by
 unfold H5 at hi;cases hc:(o.op.operands.toList.all (fun x=>flat (ρ x))&& !(JM o.op))
 ·simp only[hc,EB]at hi;cases hi
 ·simp only[hc,C8]at hi;simp only[Dg,sd]at hc;split at hi
  ·rename_i v0 hp;cases hf:flat v0
   ·simp[hf]at hi
   ·simp only[hf,C8,C5,Si]at hi;obtain⟨rfl,rfl⟩:=hi;have he:execOp ρ' o=execOp ρ o:=by
     refine execOp_congr o (fun cs b e=>?_) fun x hx=>?_
     ·rw[e]at hc;simp[JM]at hc
     ·have:=List.all_eq_true.1 hc.1 x (by simpa using hx);exact LN this (hρ x)
    rw[he];exact⟨μ,.value v0,v0,W,Of hp W,.inl rfl,h,D5 hf,Ap.refl _ _⟩
  ·cases hi
theorem MX {v:Value} (h:EN v=true):∀c,v≠ .chan c:=by rintro c rfl;cases h
theorem LF {ρ ρ':Operand->Value} (hρ:∀x,AH μ (ρ x) (ρ' x)):∀(l:List (Nat × Operand)),l.all (fun p=>EN (ρ p.2))=true->ZI μ (l.map fun p=>(p.1,ρ p.2)) (l.map fun p=>(p.1,ρ' p.2))
 | [],_=> .nil
 | (i,x)::l,h=>by
  simp only[lf,Dg]at h;exact .cons (hρ x) (MX h.1) (LF hρ l h.2)
theorem HZ {ρ ρ':Operand->Value} (hρ:∀x,AH μ (ρ x) (ρ' x)) (x:Option Operand):Fa μ (x.map ρ) (x.map ρ'):=by
 cases x with
 | none=>exact .none
 | some x=>exact .some (hρ x)
theorem UY (h:AJ base W0 μ H W) {ρ ρ':Operand->Value} (hρ:∀x,AH μ (ρ x) (ρ' x)) {o:Oper} {c:Call} {b:Builtin} (ho:o.op= .call c) (hcal:c.callee= .builtin b) {v:Value} {H':AA} (hi:KT P ρ o c b H=some (v,H')):
 CQ P base W0 μ H W (execOp ρ' o) v H':=by
 have hargs:Am μ (c.args.toList.map ρ) (c.args.map ρ').toList:=by
  rw[re];exact Am.map _ _ _ fun x _=>hρ x
 obtain⟨cst,hex⟩:∃cst,execOp ρ' o=builtin b c.argTypes o.type cst (c.args.map ρ'):=by
  simp only[execOp,ho,resolve,hcal];exact⟨_,rfl⟩
 unfold KT at hi;split at hi
 ·rw[hex];exact CQ.GY (YO h hargs hi)
 ·rw[hex];obtain⟨v',W',h1,h2,h3,h4⟩:=hU (P:=P) (ty:=o.type) h hargs hi;exact CQ.GY ⟨μ,v',W',h1,h2,h3,h4⟩
 ·rw[hex];obtain⟨v',W',h1,h2,h3,h4⟩:=Nq (P:=P) (ty:=o.type) h hargs hi;exact CQ.GY ⟨μ,v',W',h1,h2,h3,h4⟩
 ·rw[hex];split at hi
  ·rename_i t _ x ht hx;split at hi
   ·rename_i v0 hl;cases hi
    have ht0:c.argTypes[0]? = some t:=by rw[<-Wt,ht];rfl
    have ha:c.args.map ρ'=#[ρ' x]:=by rw[<-yi,re,hx];rfl
    obtain⟨r1,n,r2⟩:=o9 (P:=P) (W:=W) (ty:=o.type) (hρ x) ht0 hl;rw[ha];subst r2;exact CQ.value h ⟨_,r1,.int _ _⟩
   ·cases hi
  ·cases hi
 ·exact K4 h hρ hi
theorem jA (h:AJ base W0 μ H W) {ρ ρ':Operand->Value} (hρ:∀x,AH μ (ρ x) (ρ' x)) {o:Oper} {v:Value} {H':AA} (hi:PU P ρ o H=some (v,H')):CQ P base W0 μ H W (execOp ρ' o) v H':=by
 unfold PU at hi;split at hi
 ·rename_i x ho;cases hi
  exact⟨μ,.value (ρ' x),ρ' x,W,by simp[execOp,ho],.inl rfl,h,hρ x,Ap.refl _ _⟩
 ·rename_i x ho;cases hi
  exact⟨μ,.value (ρ' x),ρ' x,W,by simp[execOp,ho],.inl rfl,h,hρ x,Ap.refl _ _⟩
 ·rename_i c a b ho;split at hi
  ·rename_i t hc;cases hi
   have hc':ρ' c= .bool t:=by
    have hq:=hρ c;rw[hc]at hq;generalize ρ' c=q at hq ⊢;cases hq;rfl
   refine⟨μ,.value (if t then ρ' a else ρ' b),_,W,by simp[execOp,ho,hc',asBool],.inl rfl,h,?_,Ap.refl _ _⟩;cases t
   ·exact hρ b
   ·exact hρ a
  ·cases hi
 ·rename_i t i ho;split at hi
  ·rename_i vs hvs;split at hi
   ·rename_i v0 hv0;cases hi
    have hr:=hρ t;rw[hvs]at hr;obtain⟨vs',he,hl⟩:=AH.CE.1 hr;obtain⟨v',h1,h2⟩:=hl.get? hv0;rw[Wt]at h1;exact⟨μ,.value v',v',W,by simp[execOp,ho,he,Instr.extract,h1],.inl rfl,h,h2,Ap.refl _ _⟩
   ·cases hi
  ·cases hi
 ·rename_i x ho;have hr:=hρ x;split at hi
  ·rename_i a ha;cases hi
   rw[ha]at hr;generalize hq:ρ' x=q at hr;cases hr with
   | ptr b o T hm=>exact⟨μ,_,_,W,by simp only[execOp,ho,hq];rfl,.inl rfl,h,.ptr b o T hm,Ap.refl _ _⟩
   | HS b o i T hm hlo=>exact⟨μ,_,_,W,by simp only[execOp,ho,hq];rfl,.inl rfl,h,.HS b o i T hm hlo,Ap.refl _ _⟩
   | HY b o j T M hm hm2 hcu=>exact⟨μ,_,_,W,by simp only[execOp,ho,hq];rfl,.inl rfl,h,.HY b o j T M hm hm2 hcu,Ap.refl _ _⟩
  ·rename_i f a b ha;cases hi
   rw[ha]at hr;obtain⟨fn',xs',ys',he,hf,hx1,hy1⟩:=AH.CL.1 hr;cases hf
   exact⟨μ,_,_,W,by simp only[execOp,ho,he];rfl,.inl rfl,h,AH.CL.2 ⟨_,_,_,rfl,.func f,hx1,hy1⟩,Ap.refl _ _⟩
  ·rename_i f a b ha;cases hi
   rw[ha]at hr;obtain⟨fn',xs',ys',he,hf,hx1,hy1⟩:=AH.CL.1 hr;cases hf with
   | yield _ T hm=>exact⟨μ,_,_,W,by simp only[execOp,ho,he];rfl,.inl rfl,h,AH.CL.2 ⟨_,_,_,rfl,.yield f T hm,hx1,hy1⟩,Ap.refl _ _⟩
  ·cases hi
 ·rename_i fn first captured ho;have hl1:Am μ (first.toList.map ρ) (first.map ρ').toList:=by rw[re];exact Am.map _ _ _ fun x _=>hρ x
  have hl2:Am μ (captured.toList.map ρ) (captured.map ρ').toList:=by rw[re];exact Am.map _ _ _ fun x _=>hρ x
  split at hi
  ·cases hi
  ·rename_i hny;cases hi
   have hfn:Ii μ fn fn:=by
    cases fn with
    | func f=>exact .func f
    | method n=>exact .method n
    | methodOf t n=>exact .methodOf t n
    | via t p f b=>exact .via t p f b
    | yield l=>exact absurd rfl (hny l)
   exact⟨μ,.value (.func fn (first.map ρ') (captured.map ρ')),_,W,by simp[execOp,ho,Instr.makeFunc],.inl rfl,h,AH.CL.2 ⟨_,_,_,rfl,hfn,hl1,hl2⟩,Ap.refl _ _⟩
 ·rename_i t x ho;split at hi
  ·cases hi
  ·rename_i d hni hu;cases hi
   refine⟨μ,.value (.iface t (ρ' x)),_,W,?_,.inl rfl,h,.iface _ _ _ (hρ x),Ap.refl _ _⟩;have hne:∀ms,d≠ .interface ms:=fun ms e=>hni ms e
   cases d<;>first | exact absurd rfl (hne _) | simp[execOp,ho,Instr.makeInterface,run_underlying hu]
  ·cases hi
 ·rename_i t a ho;split at hi
  ·rename_i v0 hl;cases hi
   have he:execOp ρ' o=(do pure (.value (←Instr.loadAt t (ρ' a)))):=by simp only[execOp,ho]
   rw[he];exact CQ.value h (Q7 h (hρ a) hl)
  ·cases hi
 ·rename_i t a x ho;split at hi
  ·rename_i H1 hs;cases hi
   obtain⟨W',h1,h2,h3⟩:=TU (P:=P) h (hρ a) (hρ x) hs;exact⟨μ,.skip,Go.undef,W',by simp[execOp,ho,h1],.inr ⟨rfl,rfl⟩,h2,AH.undef μ,h3⟩
  ·cases hi
 ·rename_i t ho;split at hi
  ·rename_i z hz;cases hi
   obtain⟨zz,r1,r2,r3⟩:=Hr hz W;have hl:Am μ z zz.cells.toList:=by rw[<-r3];exact IE r2
   obtain⟨g1,g2⟩:=h.alloc rfl (ER W.heap.size 0 t hl);refine⟨_,.value (.pointer (some ⟨W.heap.size,0,none⟩)),_,_,?_,.inl rfl,g1,Mu ⟨W.heap.size,0,zz.cells.size,0⟩ _ rfl,g2⟩;simp[execOp,ho,Instr.alloc,r1,newVar,newRow]
  ·cases hi
 ·rename_i t x ho;cases hn:EN (ρ x)
  ·simp[hn]at hi
  ·simp only[hn,C8,C5,Si]at hi;obtain⟨rfl,rfl⟩:=hi;have hl:=I2 (hρ x) (MX hn);obtain⟨g1,g2⟩:=h.alloc rfl (ER W.heap.size 0 t hl);refine⟨_,.value (.pointer (some ⟨W.heap.size,0,none⟩)),_,_,?_,.inl rfl,g1,Mu ⟨W.heap.size,0,(ρ' x).cells.size,0⟩ _ rfl,g2⟩;simp[execOp,ho,Instr.box,newVar,newRow]
 ·rename_i t parts ho;cases hn:parts.toList.all (fun p=>EN (ρ p.2))
  ·simp only[hn,EB]at hi;cases hi
  ·simp only[hn,C8]at hi;split at hi
   ·rename_i v0 hb;cases hi
    have he:execOp ρ' o=(do pure (.value (←Instr.build t (parts.map fun(i,x)=>(i,ρ' x))))):=by simp only[execOp,ho]
    rw[he];exact CQ.value h (cO (LF hρ _ hn) hb _ (by rw[re]))
   ·cases hi
 ·rename_i t len parts ho;cases hn:(Nat.blt len Aa&&parts.toList.all (fun p=>EN (ρ p.2)))
  ·simp only[hn,EB]at hi;cases hi
  ·simp only[hn,C8]at hi;simp only[Dg]at hn;have he:execOp ρ' o=(do pure (.value (←Instr.buildSlice t len (parts.map fun(i,x)=>(i,ρ' x))))):=by simp only[execOp,ho]
   rw[he];exact CQ.GY (RX h (LF hρ _ hn.2) hi _ (by rw[re]) (BE hn.1))
 ·rename_i t l c ho;have he:execOp ρ' o=(do pure (.value (←Instr.makeSlice t (ρ' l) (ρ' c)))):=by simp only[execOp,ho]
  rw[he];exact CQ.GY (SL h (hρ l) (hρ c) hi)
 ·rename_i t x lo hi2 mx ho;split at hi
  ·rename_i v0 hs;cases hi
   have he:execOp ρ' o=(do pure (.value (←Instr.sliceAt t (ρ' x) (lo.map ρ') (hi2.map ρ') (mx.map ρ')))):=by simp only[execOp,ho]
   rw[he];exact CQ.value h (LA h (hρ x) (HZ hρ lo) (HZ hρ hi2) (HZ hρ mx) hs)
  ·cases hi
 ·rename_i s x k ho;split at hi
  ·rename_i v0 hs;cases hi
   have he:execOp ρ' o=(do pure (.value (←Instr.fieldAt s (ρ' x) k))):=by simp only[execOp,ho]
   rw[he];exact CQ.value h (LY (hρ x) hs)
  ·cases hi
 ·rename_i s x k ho;split at hi
  ·rename_i v0 hs;cases hi
   have he:execOp ρ' o=(do pure (.value (←Instr.field s (ρ' x) k))):=by simp only[execOp,ho]
   rw[he];exact CQ.value h (cL (hρ x) hs)
  ·cases hi
 ·rename_i s x k ho;split at hi
  ·rename_i v0 hs;cases hi
   have he:execOp ρ' o=(do pure (.value (←Instr.indexAt s (ρ' x) (ρ' k)))):=by simp only[execOp,ho]
   rw[he];exact CQ.value h (Gu (hρ x) (hρ k) hs)
  ·cases hi
 ·rename_i s x k ho;split at hi
  ·rename_i v0 hs;cases hi
   have he:execOp ρ' o=(do pure (.value (←Instr.index s (ρ' x) (ρ' k)))):=by simp only[execOp,ho]
   rw[he];exact CQ.value h (OO (hρ x) (hρ k) hs)
  ·cases hi
 ·rename_i t x ho;have he:execOp ρ' o=(do pure (.value (←Instr.range t (ρ' x)))):=by simp only[execOp,ho]
  rw[he];exact CQ.GY (dh h (hρ x) hi)
 ·rename_i it s ho;have he:execOp ρ' o=(do pure (.value (←Instr.next (ρ' it) s o.type))):=by simp only[execOp,ho]
  rw[he];obtain⟨v',W',h1,h2,h3,h4⟩:=VA (P:=P) (ty:=o.type) h (hρ it) hi;exact CQ.GY ⟨μ,v',W',h1,h2,h3,h4⟩
 ·rename_i op t x y yt ho;split at hi
  ·rename_i r hr;cases hi
   exact K4 h hρ hr
  ·split at hi
   ·rename_i v0 he;cases hi
    have he':IA P op t (ρ' x) (ρ' y)=some v:=by
     unfold IA at he ⊢;cases h2:GG (ρ x) (ρ y)
     case true=>rw[h2]at he;cases he
     rw[h2,EB]at he;cases ha:Bn (ρ x) (P.underlying t)with
     | none=>simp[ha]at he
     | some p=>
      cases hb:Bn (ρ y) (P.underlying t)with
      | none=>simp[ha,hb]at he
      | some q=>
       rw[Yp (hρ x) (hρ y) ha hb h2,Oq (hρ x) ha,Oq (hρ y) hb,EB];rw[ha,hb]at he;exact he
    have hfl:∃b,v= .bool b:=by
     unfold IA at he;cases h2:GG (ρ x) (ρ y)
     case true=>rw[h2]at he;cases he
     rw[h2,EB]at he;split at he
     ·rename_i p q _ _;cases hpq:(p||q)
      ·simp[hpq]at he
      ·simp only[hpq,C8]at he;split at he<;>first | (cases he;exact⟨_,rfl⟩) | cases he
     ·cases he
    obtain⟨b,rfl⟩:=hfl;have hex:execOp ρ' o=(do pure (.value (←(do eqGuard op t x y (ρ' x) (ρ' y);binOp op t (ρ' x) (ρ' y))))):=by simp only[execOp,ho]
    rw[hex];exact CQ.value h ⟨_,N5 he' W,.bool _⟩
   ·cases hi
 ·rename_i s d x ho;split at hi
  ·rename_i r hr;cases hi
   exact K4 h hρ hr
  ·have he:execOp ρ' o=(do pure (.value (←convert s d (ρ' x)))):=by simp only[execOp,ho]
   rw[he];exact CQ.GY (KV h (hρ x) hi)
 ·exact K4 h hρ hi
 ·rename_i c ho;split at hi
  ·rename_i b hb;exact UY h hρ ho hb hi
  ·cases hi
 ·cases hi
end
end Go.AD
