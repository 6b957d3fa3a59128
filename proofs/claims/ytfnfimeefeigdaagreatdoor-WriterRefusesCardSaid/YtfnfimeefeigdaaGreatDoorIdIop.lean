/-
  Part of the proof: fixed runs of a program. No conditions.
-/
import Derived.Shelf.Small.Strs
import Derived.Test.YtfnfimeefeigdaaGreatDoorChecked
import GoSem.Step
import Derived.Calls
import Derived.Laws.Sem
import Derived.Laws.World
import Derived.KernelRfl
import Derived.Laws.Cells
import Derived.Laws.IdiomCopy
import Derived.Laws.BytesString
import Derived.Lib.FrozenHead
import Derived.Lib.UnsafeStr
import Derived.Laws.Tables
import Derived.Laws.Append
import Derived.Orders
noncomputable section
namespace Go.Proofs
open Go.Shelf
def Tryz.UT:Go.Shelf.Ren:=⟨fun | 137=>226 | 217=>234 | 266=>236 | n=>n,fun | 9=>9 | 5=>5 | 3=>3 | n=>n,fun | n=>n⟩
theorem Tryz.fl:Go.Proofs.Lays.n137 Tryz.prog Tryz.UT:={
 mixed:=by kernel_rfl
 f137:=Tryz.func226.trans (congrArg some (by kernel_rfl))
 f217:=Tryz.func234.trans (congrArg some (by kernel_rfl))
 f266:=Tryz.func236.trans (congrArg some (by kernel_rfl))
 t3:=Tryz.underlying3
 a3:=Tryz.isAgg3
 z3:=Tryz.sizeOf3
 v3:=Tryz.zeroValue3
 t5:=Tryz.underlying5
 a5:=Tryz.isAgg5
 z5:=Tryz.sizeOf5
 v5:=Tryz.zeroValue5
 t9:=Tryz.underlying9
 a9:=Tryz.isAgg9
 z9:=Tryz.sizeOf9
 v9:=Tryz.zeroValue9 }
end Go.Proofs
namespace Go.AB
abbrev BT:Nat:=5
abbrev Az:Nat:=8
abbrev CB:Nat:=9
abbrev DB:Nat:=10
abbrev FV:Nat:=13
abbrev EG:Nat:=14
abbrev DN:Nat:=16
abbrev An:Nat:=18
abbrev Cx:Nat:=20
abbrev Cj:Nat:=21
abbrev DX:Nat:=22
abbrev EB:Nat:=23
abbrev ES:Nat:=24
abbrev CG:Nat:=25
abbrev Bb:Nat:=28
abbrev DV:Nat:=30
abbrev CD:Nat:=33
abbrev Eh:Nat:=34
abbrev FN:Nat:=35
abbrev FT:Nat:=36
abbrev Bi:Nat:=37
abbrev CT:Nat:=38
abbrev B8:Nat:=39
abbrev DG:Nat:=40
abbrev He:Nat:=41
abbrev A9:Nat:=43
abbrev CX:Nat:=46
abbrev Bj:Nat:=48
abbrev JQ:Nat:=49
abbrev DS:Nat:=51
abbrev I5:Nat:=54
abbrev C2:Nat:=55
abbrev IE:Nat:=62
abbrev BL:Nat:=63
abbrev Ca:Nat:=64
abbrev Bw:Nat:=66
abbrev AE:Nat:=68
abbrev BV:Nat:=69
abbrev Bf:Nat:=71
abbrev GF:Nat:=72
abbrev FP:Nat:=82
abbrev EH:Nat:=83
abbrev Cu:Nat:=84
abbrev Ai:Nat:=86
abbrev Jx:Nat:=88
abbrev Dy:Nat:=90
abbrev CJ:Nat:=91
abbrev CU:Nat:=93
abbrev DI:Nat:=94
abbrev JR:Nat:=97
abbrev Bx:Nat:=105
abbrev CZ:Nat:=107
abbrev EC:Nat:=108
abbrev Em:Nat:=109
abbrev Cq:Nat:=111
abbrev BH:Nat:=113
abbrev EM:Nat:=117
abbrev DY:Nat:=118
abbrev Ck:Nat:=124
abbrev Bp:Nat:=127
abbrev Dg:Nat:=130
abbrev AM:Nat:=132
abbrev CC:Nat:=133
abbrev FC:Nat:=134
abbrev Ad:Nat:=135
abbrev AS:Nat:=136
abbrev CF:Nat:=137
abbrev D0:Nat:=139
abbrev EF:Nat:=140
abbrev A2:Nat:=142
abbrev Aw:Nat:=145
abbrev A8:Nat:=146
abbrev EN:Nat:=150
abbrev Dk:Nat:=155
abbrev AI:Nat:=157
abbrev Dc:Nat:=158
abbrev FE:Nat:=159
abbrev Br:Nat:=164
abbrev BO:Nat:=165
abbrev BD:Nat:=166
abbrev Ep:Nat:=168
abbrev B7:Nat:=174
abbrev Bg:Nat:=175
abbrev Aj:Nat:=176
abbrev Cw:Nat:=177
abbrev BW:Nat:=182
abbrev Ap:Nat:=183
abbrev EP:Nat:=188
abbrev B1:Nat:=189
abbrev Nw:Nat:=192
abbrev IJ:Nat:=193
abbrev BM:Nat:=195
abbrev ER:Nat:=197
abbrev Fl:Nat:=203
abbrev OS:Nat:=204
abbrev At:Nat:=207
abbrev Dx:Nat:=214
abbrev CE:Nat:=215
abbrev Ax:Nat:=221
abbrev Db:Nat:=222
abbrev EO:Nat:=226
abbrev AR:Nat:=230
abbrev Ba:Nat:=231
inductive Tr(α:Type) where
 | leaf:Tr α
 | node (l:Tr α) (v:Option α) (r:Tr α):Tr α
inductive Hl where
 | e:Hl
 | z (p:Hl):Hl
 | o (p:Hl):Hl
 deriving DecidableEq
def Hl.uG(f:Nat):Nat->Hl:=
 Nat.rec (motive:=fun _=>Nat->Hl) (fun _=> .e)
  (fun _ ih n=>Nat.casesOn (motive:=fun _=>Hl) n .e fun n=>
   bif Nat.beq (Nat.mod n 2) 1 then .o (ih (Nat.div n 2))else .z (ih (Nat.div n 2))) f
def Hl.of(n:Nat):Hl:=Hl.uG n n
theorem Hl.Qg(f:Nat):Hl.uG f 0= .e:=by cases f<;>rfl
theorem Hl.KK(f n:Nat):Hl.uG (f+1) (n+1)=bif Nat.beq (n % 2) 1 then .o (Hl.uG f (n / 2))else .z (Hl.uG f (n / 2)):=rfl
theorem Hl.qG:∀(f g n m:Nat),n<=f->m<=g->Hl.uG f n=Hl.uG g m->n=m:=by
 intro f;induction f with
 | zero=>
  intro g n m hn hm h;obtain rfl:n=0:=by omega
  cases m with
  | zero=>rfl
  | succ m=>
   cases g with
   | zero=>omega
   | succ g=>
    rw[Hl.Qg,Hl.KK]at h;cases hb:Nat.beq (m % 2) 1<;>rw[hb]at h<;>cases h
 | succ f ih=>
  intro g n m hn hm h;cases n with
  | zero=>
   cases m with
   | zero=>rfl
   | succ m=>
    cases g with
    | zero=>omega
    | succ g=>
     rw[Hl.Qg,Hl.KK]at h;cases hb:Nat.beq (m % 2) 1<;>rw[hb]at h<;>cases h
  | succ n=>
   cases m with
   | zero=>
    rw[Hl.Qg,Hl.KK]at h;cases hb:Nat.beq (n % 2) 1<;>rw[hb]at h<;>cases h
   | succ m=>
    cases g with
    | zero=>omega
    | succ g=>
     rw[Hl.KK,Hl.KK]at h;cases hb:Nat.beq (n % 2) 1<;>cases hc:Nat.beq (m % 2) 1<;>rw[hb,hc]at h
     .have h1:n % 2≠1:=by intro e;rw[e]at hb;cases hb
      have h2:m % 2≠1:=by intro e;rw[e]at hc;cases hc
      have:=ih g (n / 2) (m / 2) (by omega) (by omega) (by injection h);omega
     .cases h
     .cases h
     .have h1:n % 2=1:=Nat.eq_of_beq_eq_true hb;have h2:m % 2=1:=Nat.eq_of_beq_eq_true hc;have:=ih g (n / 2) (m / 2) (by omega) (by omega) (by injection h);omega
theorem Hl.ug{n m:Nat}(h:Hl.of n=Hl.of m):n=m:=Hl.qG n m n m (Nat.le_refl _) (Nat.le_refl _) h
namespace Tr
variable {α:Type}
def LR(t:Tr α):Hl->Option α:=
 Tr.rec (motive:=fun _=>Hl->Option α) (fun _=>none)
  (fun _ v _ ihl ihr p=>Hl.casesOn (motive:=fun _=>Option α) p v (fun p=>ihl p) (fun p=>ihr p)) t
def Gl(x:Option α)(p:Hl):Tr α->Tr α:=
 Hl.rec (motive:=fun _=>Tr α->Tr α)
  (fun t=>Tr.casesOn (motive:=fun _=>Tr α) t (.node .leaf x .leaf) (fun l _ r=> .node l x r))
  (fun _ ih t=>Tr.casesOn (motive:=fun _=>Tr α) t (.node (ih .leaf) none .leaf) (fun l v r=> .node (ih l) v r))
  (fun _ ih t=>Tr.casesOn (motive:=fun _=>Tr α) t (.node .leaf none (ih .leaf)) (fun l v r=> .node l v (ih r)))
  p
theorem dQ(x:Option α):∀(p q:Hl)(t:Tr α),(t.Gl x p).LR q=if q=p then x else t.LR q:=by
 intro p;induction p with
 | e=>intro q t;cases t<;>cases q<;>simp[Gl,LR]
 | z p ih=>
  intro q t;cases t with
  | leaf=>cases q with
   | e=>simp[Gl,LR]
   | z q=>have:=ih q .leaf;simpa [Gl,LR] using this
   | o q=>simp[Gl,LR]
  | node l v r=>cases q with
   | e=>simp[Gl,LR]
   | z q=>have:=ih q l;simpa [Gl,LR] using this
   | o q=>simp[Gl,LR]
 | o p ih=>
  intro q t;cases t with
  | leaf=>cases q with
   | e=>simp[Gl,LR]
   | o q=>have:=ih q .leaf;simpa [Gl,LR] using this
   | z q=>simp[Gl,LR]
  | node l v r=>cases q with
   | e=>simp[Gl,LR]
   | o q=>have:=ih q r;simpa [Gl,LR] using this
   | z q=>simp[Gl,LR]
def get(t:Tr α)(n:Nat):Option α:=t.LR (Hl.of n)
def put(t:Tr α)(n:Nat)(x:Option α):Tr α:=t.Gl x (Hl.of n)
theorem RA(n:Nat):(Tr.leaf:Tr α).get n=none:=rfl
theorem AQ(t:Tr α)(n m:Nat)(x:Option α):(t.put n x).get m=if m=n then x else t.get m:=by
 unfold get put;rw[dQ]
 by_cases h:m=n
 .subst h;simp
 .rw[if_neg (fun e=>h (Hl.ug e)),if_neg h]
theorem Tq(t:Tr α)(n:Nat)(x:Option α):(t.put n x).get n=x:=by rw[AQ,if_pos rfl]
theorem Yv(t:Tr α){n m:Nat}(x:Option α)(h:m≠n):(t.put n x).get m=t.get m:=by rw[AQ,if_neg h]
end Tr
abbrev GJ:=List (FuncId × List Nat)
abbrev DD:=List (Nat × List Value)
abbrev DJ:=Option Value
abbrev BE:=Array Value
abbrev AL:=List Value
abbrev Ag:=ByteArray
abbrev AP:=List Nat
abbrev Au:=List Int
theorem VC:type_of% @Nat.le_of_ble_eq_true:=@Nat.le_of_ble_eq_true
theorem AAN:type_of% @Option.some.injEq:=@Option.some.injEq
theorem AAO:type_of% @cond_true:=@cond_true
theorem AAP:type_of% @Nat.eq_of_beq_eq_true:=@Nat.eq_of_beq_eq_true
theorem AAQ:type_of% @Bool.and_eq_true:=@Bool.and_eq_true
theorem AAR:type_of% @cond_false:=@cond_false
theorem AAS:type_of% @Nat.ble_eq_true_of_le:=@Nat.ble_eq_true_of_le
theorem AAT:type_of% @Nat.le_refl:=@Nat.le_refl
theorem AAU:type_of% @List.getElem?_eq_getElem:=@List.getElem?_eq_getElem
theorem AAV:type_of% @Option.map_eq_some_iff:=@Option.map_eq_some_iff
theorem AAW:type_of% @if_neg:=@if_neg
theorem AAX:type_of% @List.getD_eq_getElem?_getD:=@List.getD_eq_getElem?_getD
theorem AAY:type_of% @decide_eq_true:=@decide_eq_true
theorem AAZ:type_of% @if_pos:=@if_pos
theorem AAa:type_of% @Int.toNat_natCast:=@Int.toNat_natCast
theorem AAb:type_of% @decide_eq_false:=@decide_eq_false
theorem AAc:type_of% @List.take_of_length_le:=@List.take_of_length_le
theorem AAd:type_of% @List.cons.injEq:=@List.cons.injEq
theorem AAe:type_of% @List.getElem?_set:=@List.getElem?_set
theorem AAf:type_of% @List.length_append:=@List.length_append
theorem AAg:type_of% @List.mem_singleton:=@List.mem_singleton
theorem AAh:type_of% @List.length_take:=@List.length_take
theorem AAi:type_of% @List.getElem?_map:=@List.getElem?_map
theorem AAj:type_of% @Nat.zero_add:=@Nat.zero_add
theorem AAk:type_of% @List.length_set:=@List.length_set
theorem AAl:type_of% @decide_eq_true_eq:=@decide_eq_true_eq
theorem AAm:type_of% @Prod.mk.injEq:=@Prod.mk.injEq
theorem AAn:type_of% @List.map_cons:=@List.map_cons
theorem AAo:type_of% @List.length_drop:=@List.length_drop
theorem AAp:type_of% @List.eq_nil_of_length_eq_zero:=@List.eq_nil_of_length_eq_zero
theorem AAq:type_of% @List.getElem?_eq_none:=@List.getElem?_eq_none
theorem AAr:type_of% @List.length_replicate:=@List.length_replicate
theorem AAs:type_of% @Array.getD_eq_getD_getElem?:=@Array.getD_eq_getD_getElem?
theorem AAt:type_of% @Nat.lt_or_ge:=@Nat.lt_or_ge
theorem AAu:type_of% @Nat.beq_refl:=@Nat.beq_refl
theorem AAv:type_of% @Option.bind_some:=@Option.bind_some
theorem AAw:type_of% @List.mem_cons:=@List.mem_cons
theorem AAx:type_of% @Array.getElem?_toList:=@Array.getElem?_toList
theorem AAy:type_of% @Array.length_toList:=@Array.length_toList
theorem AAz:type_of% @List.length_cons:=@List.length_cons
theorem AA0:type_of% @List.take_append_of_le_length:=@List.take_append_of_le_length
theorem AA1:type_of% @List.mem_of_getElem?:=@List.mem_of_getElem?
theorem AA2:type_of% @List.append_assoc:=@List.append_assoc
theorem AA3:type_of% @List.nodup_nil:=@List.nodup_nil
theorem AA4:type_of% @Nat.zero_le:=@Nat.zero_le
theorem AA5:type_of% @List.drop_zero:=@List.drop_zero
theorem AA6:type_of% @List.not_mem_nil:=@List.not_mem_nil
theorem AA7:type_of% @beq_eq_false_iff_ne:=@beq_eq_false_iff_ne
theorem AA8:type_of% @Option.map_some:=@Option.map_some
theorem AA9:type_of% @Nat.mul_le_mul_right:=@Nat.mul_le_mul_right
theorem ABA:type_of% @Array.getElem?_eq_getElem:=@Array.getElem?_eq_getElem
theorem ABB:type_of% @Ne.symm:=@Ne.symm
theorem ABC:type_of% @List.nil_append:=@List.nil_append
theorem ABD:type_of% @List.getElem?_append_left:=@List.getElem?_append_left
theorem ABE:type_of% @decide_eq_false_iff_not:=@decide_eq_false_iff_not
theorem ABF:type_of% @and_true:=@and_true
theorem ABG:type_of% @List.getElem?_append_right:=@List.getElem?_append_right
theorem ABH:type_of% @Nat.add_assoc:=@Nat.add_assoc
theorem ABI:type_of% @List.length_map:=@List.length_map
theorem ABJ:type_of% @Int.eq_ofNat_of_zero_le:=@Int.eq_ofNat_of_zero_le
theorem ABK:type_of% @List.getElem?_cons_succ:=@List.getElem?_cons_succ
theorem ABL:type_of% @List.mem_cons_self:=@List.mem_cons_self
theorem ABM:type_of% @Array.getElem?_setIfInBounds:=@Array.getElem?_setIfInBounds
theorem ABN:type_of% @List.all_cons:=@List.all_cons
theorem ABO:type_of% @List.getElem?_take:=@List.getElem?_take
theorem ABP:type_of% @List.getElem?_drop:=@List.getElem?_drop
theorem ABQ:type_of% @Nat.sub_self:=@Nat.sub_self
theorem ABR:type_of% @Nat.lt_of_lt_of_le:=@Nat.lt_of_lt_of_le
theorem ABS:type_of% @List.nodup_cons:=@List.nodup_cons
theorem ABT:type_of% @List.mem_cons_of_mem:=@List.mem_cons_of_mem
theorem ABU:type_of% @of_decide_eq_true:=@of_decide_eq_true
theorem ABV:type_of% @List.map_nil:=@List.map_nil
theorem ABW:type_of% @Array.toList_append:=@Array.toList_append
theorem ABX:type_of% @Nat.min_eq_left:=@Nat.min_eq_left
theorem ABY:type_of% @Nat.lt_irrefl:=@Nat.lt_irrefl
theorem ABZ:type_of% @Option.getD_some:=@Option.getD_some
theorem ABa:type_of% @Bool.or_eq_true:=@Bool.or_eq_true
theorem ABb:type_of% @Array.toList_map:=@Array.toList_map
theorem ABc:type_of% @List.cons_append:=@List.cons_append
theorem ABd:type_of% @Bool.not_eq_true':=@Bool.not_eq_true'
theorem ABe:type_of% @Int.natCast_nonneg:=@Int.natCast_nonneg
theorem ABf:type_of% @Bool.and_eq_false_iff:=@Bool.and_eq_false_iff
theorem ABg:type_of% @List.getElem?_cons_zero:=@List.getElem?_cons_zero
theorem ABh:type_of% @List.take_length:=@List.take_length
theorem ABi:type_of% @List.take_take:=@List.take_take
theorem ABj:type_of% @Nat.add_mul:=@Nat.add_mul
theorem ABk:type_of% @Bool.or_eq_false_iff:=@Bool.or_eq_false_iff
theorem ABl:type_of% @List.mem_of_mem_drop:=@List.mem_of_mem_drop
theorem ABm:type_of% @List.drop_eq_getElem_cons:=@List.drop_eq_getElem_cons
theorem ABn:type_of% @List.mem_or_eq_of_mem_set:=@List.mem_or_eq_of_mem_set
theorem ABo:type_of% @Array.getElem?_eq_none:=@Array.getElem?_eq_none
theorem ABp:type_of% @List.drop_of_length_le:=@List.drop_of_length_le
theorem ABq:type_of% @List.append_nil:=@List.append_nil
theorem ABr:type_of% @or_false:=@or_false
theorem ABs:type_of% @Nat.le_trans:=@Nat.le_trans
theorem ABt:type_of% @List.getElem?_replicate:=@List.getElem?_replicate
theorem ABu:type_of% @Option.bind_eq_some_iff:=@Option.bind_eq_some_iff
theorem ABv:type_of% @Bool.and_self:=@Bool.and_self
theorem ABw:type_of% @Bool.false_or:=@Bool.false_or
theorem ABx:type_of% @Array.toList_inj:=@Array.toList_inj
theorem ABy:type_of% @Nat.zero_mul:=@Nat.zero_mul
theorem ABz:type_of% @List.getElem_mem:=@List.getElem_mem
theorem AB0:type_of% @List.drop_append_of_le_length:=@List.drop_append_of_le_length
theorem AB1:type_of% @List.set_getElem_self:=@List.set_getElem_self
theorem AB2:type_of% @Array.getElem?_modify:=@Array.getElem?_modify
theorem AB3:type_of% @Nat.ne_of_lt:=@Nat.ne_of_lt
theorem AB4:type_of% @Nat.eq_zero_or_pos:=@Nat.eq_zero_or_pos
theorem AB5:type_of% @Bool.true_and:=@Bool.true_and
theorem AB6:type_of% @Nat.add_zero:=@Nat.add_zero
theorem AB7:type_of% @Int.tmod_eq_emod_of_nonneg:=@Int.tmod_eq_emod_of_nonneg
theorem AB8:type_of% @List.Sublist.refl:=@List.Sublist.refl
theorem AB9:type_of% @List.map_congr_left:=@List.map_congr_left
theorem ACA:type_of% @if_true:=@if_true
theorem ACB:type_of% @beq_self_eq_true:=@beq_self_eq_true
theorem ACC:type_of% @Nat.succ_mul:=@Nat.succ_mul
theorem ACD:type_of% @List.mem_of_mem_take:=@List.mem_of_mem_take
theorem ACE:type_of% @List.ext_getElem?:=@List.ext_getElem?
theorem ACF:type_of% @and_self:=@and_self
theorem ACG:type_of% @List.all_eq_true:=@List.all_eq_true
theorem ACH:type_of% @Array.toList_setIfInBounds:=@Array.toList_setIfInBounds
theorem ACI:type_of% @Iff.rfl:=@Iff.rfl
theorem ACJ:type_of% @Option.some.inj:=@Option.some.inj
theorem ACK:type_of% @List.set_set:=@List.set_set
theorem ACL:type_of% @Int.le_refl:=@Int.le_refl
theorem ACN:type_of% @Nat.mul_one:=@Nat.mul_one
theorem ACO:type_of% @List.take_succ_eq_append_getElem:=@List.take_succ_eq_append_getElem
theorem ACP:type_of% @Nat.pow_succ:=@Nat.pow_succ
theorem ACQ:type_of% @Nat.mod_lt:=@Nat.mod_lt
theorem ACR:type_of% @Option.bind_eq_bind:=@Option.bind_eq_bind
theorem ACS:type_of% @List.getElem?_range:=@List.getElem?_range
theorem ACT:type_of% @List.getElem_of_mem:=@List.getElem_of_mem
theorem ACU:type_of% @Array.getElem?_push:=@Array.getElem?_push
theorem ACV:type_of% @List.drop_drop:=@List.drop_drop
theorem ACW:type_of% @List.mapM_cons:=@List.mapM_cons
theorem ACX:type_of% @Nat.add_sub_cancel_left:=@Nat.add_sub_cancel_left
theorem ACY:type_of% @List.map_map:=@List.map_map
theorem ACZ:type_of% @of_decide_eq_false:=@of_decide_eq_false
theorem ACa:type_of% @List.singleton_append:=@List.singleton_append
theorem ACb:type_of% @List.size_toArray:=@List.size_toArray
theorem ACc:type_of% @not_or:=@not_or
theorem ACd:type_of% @List.take_zero:=@List.take_zero
theorem ACe:type_of% @List.drop_take:=@List.drop_take
theorem ACf:type_of% @Nat.min_def:=@Nat.min_def
theorem ACg:type_of% @Bool.or_false:=@Bool.or_false
theorem ACh:type_of% @List.eq_of_mem_replicate:=@List.eq_of_mem_replicate
theorem ACi:type_of% @Option.pure_def:=@Option.pure_def
theorem ACj:type_of% @List.mem_append:=@List.mem_append
theorem ACk:type_of% @List.length_nil:=@List.length_nil
theorem ACl:type_of% @beq_iff_eq:=@beq_iff_eq
theorem ACm:type_of% @Bool.not_false:=@Bool.not_false
theorem ACn:type_of% @Bool.false_and:=@Bool.false_and
theorem ACo:type_of% @true_and:=@true_and
theorem ACp:type_of% @List.drop_eq_nil_of_le:=@List.drop_eq_nil_of_le
theorem ACq:type_of% @List.set_append_right:=@List.set_append_right
theorem ACr:type_of% @List.drop_append:=@List.drop_append
theorem ACs:type_of% @List.any_eq_true:=@List.any_eq_true
theorem ACt:type_of% @Bool.not_true:=@Bool.not_true
theorem ACu:type_of% @Nat.mul_pos:=@Nat.mul_pos
theorem ACv:type_of% @if_false:=@if_false
theorem ACw:type_of% @List.foldl_cons:=@List.foldl_cons
theorem ACx:type_of% @List.map_append:=@List.map_append
theorem ACy:type_of% @List.drop_succ_cons:=@List.drop_succ_cons
theorem ACz:type_of% @List.take_succ_cons:=@List.take_succ_cons
theorem AC0:type_of% @Nat.min_self:=@Nat.min_self
theorem AC1:type_of% @Nat.mul_comm:=@Nat.mul_comm
theorem AC2:type_of% @Int.fdiv_eq_ediv_of_nonneg:=@Int.fdiv_eq_ediv_of_nonneg
theorem AC3:type_of% @List.extract_eq_take_drop:=@List.extract_eq_take_drop
theorem AC4:type_of% @List.mem_of_find?_eq_some:=@List.mem_of_find?_eq_some
theorem AC5:type_of% @List.getElem?_eq_none_iff:=@List.getElem?_eq_none_iff
theorem AC6:type_of% @Array.size_append:=@Array.size_append
theorem AC7:type_of% @List.flatMap_cons:=@List.flatMap_cons
theorem AC8:type_of% @Bool.and_true:=@Bool.and_true
theorem AC9:type_of% @Nat.mul_assoc:=@Nat.mul_assoc
theorem ADA:type_of% @Array.getElem?_replicate:=@Array.getElem?_replicate
theorem ADB:type_of% @List.drop_length:=@List.drop_length
theorem ADC:type_of% @List.take_append:=@List.take_append
theorem ADD:type_of% @ByteArray.data_extract:=@ByteArray.data_extract
theorem ADE:type_of% @Nat.succ_pos:=@Nat.succ_pos
theorem ADF:type_of% @Nat.sub_zero:=@Nat.sub_zero
theorem ADG:type_of% @Nat.mul_ne_zero:=@Nat.mul_ne_zero
theorem ADH:type_of% @Int.natCast_pow:=@Int.natCast_pow
theorem ADI:type_of% @Nat.not_lt_zero:=@Nat.not_lt_zero
theorem ADJ:type_of% @List.getElem?_toArray:=@List.getElem?_toArray
theorem ADK:type_of% @List.take_append_drop:=@List.take_append_drop
theorem ADL:type_of% @List.Pairwise.sublist:=@List.Pairwise.sublist
theorem ADM:type_of% @Array.toList_extract:=@Array.toList_extract
theorem ADN:type_of% @List.map_id:=@List.map_id
theorem ADO:type_of% @Nat.pow_le_pow_right:=@Nat.pow_le_pow_right
theorem ADP:type_of% @Nat.sub_mul:=@Nat.sub_mul
theorem ADQ:type_of% @List.getElem?_zipIdx:=@List.getElem?_zipIdx
theorem ADR:type_of% @Nat.add_comm:=@Nat.add_comm
theorem ADS:type_of% @Int.le_trans:=@Int.le_trans
theorem ADT:type_of% @Nat.pow_zero:=@Nat.pow_zero
theorem ADU:type_of% @and_congr:=@and_congr
theorem ADV:type_of% @Nat.one_mul:=@Nat.one_mul
theorem ADW:type_of% @Nat.pow_pos:=@Nat.pow_pos
theorem ADX:type_of% @Nat.le_succ:=@Nat.le_succ
structure AX where
 size:Int
 HT:Int
 b:Au
structure BG where
 at_:Int
 done:Bool
 Ao:Au
structure A4 where
 BI:List AX
 BP:Option BG
 AO:Int
 ops:Int
 down:Bool
structure B4 where
 res:Int
 st:AP
def Dm:AP->Nat->Nat
 | [],_=>0
 | s::r,k=>(bif Nat.beq s k then 1 else 0)+2 * Dm r k
abbrev HO:=Int × Ag × Bool × Int × Int × Int
structure B6 where
 keys:List (Ag × List HO)
 AO:List (List HO)
inductive Pk where
 | EW (m:AX)
 | Bt (L:List AX)
 | timer (p:Option BG)
 | dev (d:A4)
 | tab (t:B4)
 | idx (x:B6)
structure FI(m:AX):Prop where
 pos:0 < m.size
 oR:m.size<=8192
 len:(m.b.length:Int)<=m.size
 d0:0<=m.HT
 d1:m.HT<=m.b.length
structure Ip(p:BG):Prop where
 a0:0 < p.at_
 a1:p.at_<=1000000
 k0:0 < p.Ao.length
 k1:p.Ao.length<=34
 k2:∀x∈p.Ao,0<=x/\x<=8192
structure HL(t:B4):Prop where
 l0:0 < t.st.length
 l1:t.st.length<=9
 s4:∀s∈t.st,s<=4
 r0:0<=t.res
 r1:t.res<=9
structure Fp(d:A4):Prop where
 s0:2<=d.AO
 s1:d.AO<=32
 len:(d.BI.length:Int)=d.AO+2
 BP:∀p,d.BP=some p->Ip p
abbrev Eu:=List (Option (List HO))
abbrev A6:=List HO
inductive SK where
 | int (k:IntKind)
 | bool
 | str
 | tok
abbrev EK:=List SK
@[reducible] def SK.C:SK->Type
 | .int _=>Int
 | .bool=>Bool
 | .str=>Ag
 | .tok=>Value
def SK.enc:(s:SK)->s.C->Value
 | .int k,n=> .int k n
 | .bool,b=> .bool b
 | .str,s=> .string s
 | .tok,v=>v
def SK.dec:(s:SK)->Value->Option s.C
 | .int k,.int k' n=>bif decide (k=k')then some n else none
 | .bool,.bool b=>some b
 | .str,.string s=>some s
 | .tok,v=>some v
 | _,_=>none
theorem SK.Ii:∀(s:SK)(v:Value)(x:s.C),s.dec v=some x->s.enc x=v:=by
 intro s v x h;cases s with
 | int k=>
  cases v<;>simp only[SK.dec,reduceCtorEq]at h
  rename_i k' n
  by_cases e:k=k'
  .subst e;simp only[decide_true,AAO]at h;cases h;rfl
  .simp[e]at h
 | bool=>cases v<;>simp only[SK.dec,reduceCtorEq]at h;cases h;rfl
 | str=>cases v<;>simp only[SK.dec,reduceCtorEq]at h;cases h;rfl
 | tok=>simp only[SK.dec]at h;cases h;rfl
@[reducible] def EK.C:EK->Type
 | []=>Unit
 | [s]=>s.C
 | s::t::r=>s.C × EK.C (t::r)
def EK.enc:(k:EK)->EK.C k->AL
 | [],_=>[]
 | [s],x=>[s.enc x]
 | s::t::r,x=>s.enc x.1::EK.enc (t::r) x.2
def EK.dec:(k:EK)->AL->Option (EK.C k)
 | []=>fun l=>match l with
  | []=>some ()
  | _::_=>none
 | [s]=>fun l=>match l with
  | v::r=>match r with
   | []=>s.dec v
   | _::_=>none
  | []=>none
 | s::t::r=>fun l=>match l with
  | v::l=>match s.dec v,EK.dec (t::r) l with
   | some x,some y=>some (x,y)
   | _,_=>none
  | []=>none
theorem EK.C0:∀(k:EK)(x:EK.C k),(EK.enc k x).length=k.length
 | [],_=>rfl
 | [_],_=>rfl
 | _::t::r,x=>by simp only[EK.enc,AAz,EK.C0 (t::r) x.2]
theorem EK.Ii:∀(k:EK)(l:AL)(x:EK.C k),EK.dec k l=some x->EK.enc k x=l
 | []=>fun l x h=>by
  cases l with
  | nil=>rfl
  | cons v l=>cases h
 | [s]=>fun l x h=>by
  cases l with
  | nil=>cases h
  | cons v l=>cases l with
   | nil=>simp only[EK.dec]at h;simp only[EK.enc];rw[SK.Ii s v x h]
   | cons w l=>cases h
 | s::t::r=>fun l x h=>by
  cases l with
  | nil=>cases h
  | cons v l=>
   simp only[EK.dec]at h;split at h
   .rename_i a b ha hb;cases h
    simp only[EK.enc];rw[SK.Ii s v a ha,EK.Ii (t::r) l b hb]
   .cases h
def Ac(k:EK)(l:List (EK.C k)):AL:=l.flatMap (EK.enc k)
theorem gE(k:EK):Ac k []=[]:=rfl
theorem D3(k:EK)(x:EK.C k)(l:List (EK.C k)):Ac k (x::l)=EK.enc k x++Ac k l:=rfl
theorem C5(k:EK)(l m:List (EK.C k)):Ac k (l++m)=Ac k l++Ac k m:=by simp[Ac]
theorem A7(k:EK)(l:List (EK.C k)):(Ac k l).length=l.length * k.length:=by
 induction l with
 | nil=>simp[Ac]
 | cons x l ih=>rw[D3,AAf,EK.C0,ih,AAz,ACC];omega
theorem E4(k:EK):∀(i:Nat)(l:List (EK.C k)),(Ac k l).drop (i * k.length)=Ac k (l.drop i)
 | 0,l=>by simp
 | i+1,[]=>by simp[Ac]
 | i+1,x::l=>by
  rw[D3,ACy,<-E4 k i l,ACr,EK.C0];have h1:List.drop ((i+1) * k.length) (EK.enc k x)=[]:=ACp (by rw[EK.C0,ACC];omega);have h2:(i+1) * k.length - k.length=i * k.length:=by rw[ACC];omega
  rw[h1,h2,ABC]
theorem ET(k:EK):∀(i:Nat)(l:List (EK.C k)),(Ac k l).take (i * k.length)=Ac k (l.take i)
 | 0,l=>by simp[Ac]
 | i+1,[]=>by simp[Ac]
 | i+1,x::l=>by
  rw[D3,ACz,D3,<-ET k i l,ADC,EK.C0];have h1:List.take ((i+1) * k.length) (EK.enc k x)=EK.enc k x:=AAc (by rw[EK.C0,ACC];omega);have h2:(i+1) * k.length - k.length=i * k.length:=by rw[ACC];omega
  rw[h1,h2]
inductive CR where
 | eX (t e:TypeId) (l:List UInt8)
 | pack (s:Pk)
 | mem (k:EK) (L:List (Option (List (EK.C k))))
 | Bk (L:List (Option Pk))
structure BQ where
 c:Nat
 d:Nat
 r:Nat
 e:Nat
abbrev AW:=Nat->Option BQ
def AW.le(Z ν:AW):Prop:=∀b x,Z b=some x->ν b=some x
theorem AW.le_refl(Z:AW):Z.le Z:=fun _ _ h=>h
theorem AW.le_trans{Z ν ξ:AW}(h:Z.le ν)(h':ν.le ξ):Z.le ξ:=fun b x e=>h' b x (h b x e)
def AW.ext(Z:AW)(b:Nat)(x:BQ):AW:=fun i=>if i=b then some x else Z i
theorem AW.CV{Z:AW}{b:Nat}(x:BQ)(h:Z b=none):Z.le (Z.ext b x):=by
 intro i y e;unfold AW.ext
 by_cases hi:i=b
 .subst hi;rw[h]at e;cases e
 .rw[AAW hi];exact e
theorem AW.AY(Z:AW)(b:Nat)(x:BQ):Z.ext b x b=some x:=by simp[AW.ext]
theorem AW.BB(Z:AW){b i:Nat}(x:BQ)(h:i≠b):Z.ext b x i=Z i:=by simp[AW.ext,h]
def AT:Nat:=18446744073709551616
attribute [irreducible] AT
def Jn(T:BQ)(o len cap cap':Nat):Prop:=(cap < AT/\cap'=cap)\/(AT<=cap/\cap - AT<=cap'/\len<=cap'/\o+cap' * T.e<=T.r/\(T.e=1\/cap'<=9223372036854775807))
def Bo:Value:= .chan (some 0)
def Xp(a b:Nat):Nat:=2 ^ a * (2 * b+1)
theorem Mo:∀{a c b d:Nat},Xp a b=Xp c d->a=c/\b=d
 | 0,0,b,d,h=>by simp only[Xp,ADT,ADV]at h;omega
 | 0,c+1,b,d,h=>by
  have e:2 ^ (c+1) * (2 * d+1)=2 * (2 ^ c * (2 * d+1)):=by rw[ACP,AC1 (2 ^ c) 2,AC9]
  simp only[Xp,ADT,ADV]at h;rw[e]at h;omega
 | a+1,0,b,d,h=>by
  have e:2 ^ (a+1) * (2 * b+1)=2 * (2 ^ a * (2 * b+1)):=by rw[ACP,AC1 (2 ^ a) 2,AC9]
  simp only[Xp,ADT,ADV]at h;rw[e]at h;omega
 | a+1,c+1,b,d,h=>by
  have e1:2 ^ (a+1) * (2 * b+1)=2 * Xp a b:=by unfold Xp;rw[ACP,AC1 (2 ^ a) 2,AC9]
  have e2:2 ^ (c+1) * (2 * d+1)=2 * Xp c d:=by unfold Xp;rw[ACP,AC1 (2 ^ c) 2,AC9]
  have h:2 ^ (a+1) * (2 * b+1)=2 ^ (c+1) * (2 * d+1):=h;rw[e1,e2]at h;obtain⟨h1,h2⟩:=Mo (a:=a) (c:=c) (b:=b) (d:=d) (by omega);exact⟨by omega,h2⟩
theorem bH(a b:Nat):Xp a b≠0:=by
 unfold Xp;have:=ACu (ADW (n:=a) (show 0 < 2 by decide)) (show 0 < 2 * b+1 by omega);omega
def CO:List BQ->Nat
 | []=>0
 | x::l=>Xp (Xp x.c (Xp x.d (Xp x.r x.e))) (CO l)
theorem Hw:∀{l m:List BQ},CO l=CO m->l=m
 | [],[],_=>rfl
 | [],_::_,h=>absurd h.symm (bH _ _)
 | _::_,[],h=>absurd h (bH _ _)
 | x::l,y::m,h=>by
  obtain⟨h1,h2⟩:=Mo h;obtain⟨c1,h1⟩:=Mo h1;obtain⟨c2,h1⟩:=Mo h1;obtain⟨c3,c4⟩:=Mo h1;obtain⟨a1,a2,a3,a4⟩:=x;obtain⟨b1,b2,b3,b4⟩:=y;simp only at c1 c2 c3 c4;subst c1 c2 c3 c4;rw[Hw h2]
open Classical in
def KW(e j:Nat):Option BQ:=if h:∃l,CO l=e then(Classical.choose h)[j]? else none
theorem FQ(l:List BQ)(j:Nat):KW (CO l) j=l[j]?:=by
 unfold KW;have h:∃m,CO m=CO l:=⟨l,rfl⟩
 rw[dif_pos h,Hw (Classical.choose_spec h)]
inductive Ic(Z:AW):Fn->Fn->Prop where
 | func (f:FuncId):Ic Z (.func f) (.func f)
 | method (n:String):Ic Z (.method n) (.method n)
 | methodOf (t:TypeId) (n:String):Ic Z (.methodOf t n) (.methodOf t n)
 | via (t:TypeId) (p:Array FieldStep) (f:FuncId) (b:Bool):Ic Z (.via t p f b) (.via t p f b)
 | yield (l:Nat) (T:BQ) (h:Z l=some T):Ic Z (.yield l) (.yield T.c)
inductive AF(Z:AW):Value->Value->Prop where
 | Bo (v:Value):AF Z AB.Bo v
 | bool (b:Bool):AF Z (.bool b) (.bool b)
 | int (k:IntKind) (n:Int):AF Z (.int k n) (.int k n)
 | float (k:FloatKind) (n:Nat):AF Z (.float k n) (.float k n)
 | string (s:Ag):AF Z (.string s) (.string s)
 | IX:AF Z (.pointer none) (.pointer none)
 | ptr (b o:Nat) (T:BQ) (h:Z b=some T):AF Z (.pointer (some ⟨b,o,none⟩)) (.pointer (some ⟨T.c,T.d+o,none⟩))
 | Cc (len cap:Nat):AF Z (.slice none len cap) (.slice none len cap)
 | slice (b o len cap cap' o':Nat) (T:BQ) (h:Z b=some T) (hc:Jn T o len cap cap') (ho:o'=T.d+o\/(len=0/\cap'=0)):
  AF Z (.slice (some ⟨b,o,none⟩) len cap) (.slice (some ⟨T.c,o',none⟩) len cap')
 | HV (b o i:Nat) (T:BQ) (h:Z b=some T) (hlo:o < AT):AF Z (.pointer (some ⟨b,o,some i⟩)) (.pointer (some ⟨T.c,T.d+(i * T.e+o),none⟩))
 | Hn (b o j:Nat) (T M:BQ) (h:Z b=some T) (hm:KW T.e j=some M) (ho:o=AT):AF Z (.pointer (some ⟨b,o,some j⟩)) (.pointer (some ⟨M.c,M.d,none⟩))
 | Bd (b i len cap cap' o':Nat) (T:BQ) (h:Z b=some T) (hc:Jn T (i * T.e) len cap cap') (ho:o'=T.d+i * T.e\/(len=0/\cap'=0)) (hr:T.r≠0):
  AF Z (.slice (some ⟨b,0,some i⟩) len cap) (.slice (some ⟨T.c,o',none⟩) len cap')
 | Dz (b i cap:Nat) (T:BQ) (a:Option (Nat × Nat)) (h:Z b=some T) (hc:cap=0\/(AT<=cap/\cap - AT=0)):AF Z (.slice (some ⟨b,0,some i⟩) 0 cap) (.slice (a.map fun p=>⟨p.1,p.2,none⟩) 0 0)
 | C9 (b j len cap cap' o':Nat) (T M:BQ) (h:Z b=some T) (hm:KW T.e j=some M) (hc:Jn M 0 len cap cap') (ho:o'=M.d\/(len=0/\cap'=0)) (hr:M.r≠0):
  AF Z (.slice (some ⟨b,1,some j⟩) len cap) (.slice (some ⟨M.c,o',none⟩) len cap')
 | GI (b j cap:Nat) (T:BQ) (a:Option (Nat × Nat)) (h:Z b=some T) (hc:cap=0\/(AT<=cap/\cap - AT=0)):AF Z (.slice (some ⟨b,1,some j⟩) 0 cap) (.slice (a.map fun p=>⟨p.1,p.2,none⟩) 0 0)
 | IQ:AF Z (.map none) (.map none)
 | map (b:Nat) (T:BQ) (h:Z b=some T):AF Z (.map (some b)) (.map (some T.c))
 | func (fn fn':Fn) (xs xs' ys ys':BE) (hf:Ic Z fn fn') (hx:xs.size=xs'.size)
  (ex:∀(i:Nat)(h:i < xs.size)(h':i < xs'.size),AF Z xs[i] xs'[i]) (hy:ys.size=ys'.size)
  (ey:∀(i:Nat)(h:i < ys.size)(h':i < ys'.size),AF Z ys[i] ys'[i]):AF Z (.func fn xs ys) (.func fn' xs' ys')
 | nilFunc:AF Z .nilFunc .nilFunc
 | iface (t:TypeId) (v v':Value) (h:AF Z v v'):AF Z (.iface t v) (.iface t v')
 | nilIface:AF Z .nilIface .nilIface
 | agg (xs xs':BE) (hx:xs.size=xs'.size) (ex:∀(i:Nat)(h:i < xs.size)(h':i < xs'.size),AF Z xs[i] xs'[i]):AF Z (.agg xs) (.agg xs')
 | tuple (xs xs':BE) (hx:xs.size=xs'.size) (ex:∀(i:Nat)(h:i < xs.size)(h':i < xs'.size),AF Z xs[i] xs'[i]):AF Z (.tuple xs) (.tuple xs')
theorem Ic.mono{Z ν:AW}(hl:Z.le ν){f f':Fn}(h:Ic Z f f'):Ic ν f f':=by
 cases h with
 | func f=>exact .func f
 | method n=>exact .method n
 | methodOf t n=>exact .methodOf t n
 | via t p f b=>exact .via t p f b
 | yield l T h=>exact .yield l T (hl _ _ h)
theorem AF.mono{Z ν:AW}(hl:Z.le ν){v v':Value}(h:AF Z v v'):AF ν v v':=by
 induction h with
 | Bo v=>exact .Bo v
 | bool b=>exact .bool b
 | int k n=>exact .int k n
 | float k n=>exact .float k n
 | string s=>exact .string s
 | IX=>exact .IX
 | ptr b o T h=>exact .ptr b o T (hl _ _ h)
 | Cc l c=>exact .Cc l c
 | slice b o l k k' o' T h hc ho=>exact .slice b o l k k' o' T (hl _ _ h) hc ho
 | HV b o i T h ho=>exact .HV b o i T (hl _ _ h) ho
 | Hn b o j T M h hm ho=>exact .Hn b o j T M (hl _ _ h) hm ho
 | Bd b i l k k' o' T h hc ho hr=>exact .Bd b i l k k' o' T (hl _ _ h) hc ho hr
 | Dz b i k T a h hc=>exact .Dz b i k T a (hl _ _ h) hc
 | C9 b j l k k' o' T M h hm hc ho hr=>exact .C9 b j l k k' o' T M (hl _ _ h) hm hc ho hr
 | GI b j k T a h hc=>exact .GI b j k T a (hl _ _ h) hc
 | IQ=>exact .IQ
 | map b T h=>exact .map b T (hl _ _ h)
 | func fn fn' xs xs' ys ys' hf hx _ hy _ ihx ihy=>exact .func fn fn' xs xs' ys ys' (hf.mono hl) hx ihx hy ihy
 | nilFunc=>exact .nilFunc
 | iface t v v' _ ih=>exact .iface t v v' ih
 | nilIface=>exact .nilIface
 | agg xs xs' hx _ ih=>exact .agg xs xs' hx ih
 | tuple xs xs' hx _ ih=>exact .tuple xs xs' hx ih
theorem AF.undef(Z:AW):AF Z undef undef:= .tuple _ _ rfl (fun i h=>absurd h (by simp))
inductive Af(Z:AW):AL->AL->Prop where
 | nil:Af Z [] []
 | cons {v v':Value} {l l':AL} (h:AF Z v v') (t:Af Z l l'):Af Z (v::l) (v'::l')
namespace Af
variable {Z ν:AW}
theorem mono(hl:Z.le ν){l l':AL}(h:Af Z l l'):Af ν l l':=by
 induction h with
 | nil=>exact .nil
 | cons h _ ih=>exact .cons (h.mono hl) ih
theorem length{l l':AL}(h:Af Z l l'):l.length=l'.length:=by
 induction h with
 | nil=>rfl
 | cons _ _ ih=>simp[ih]
theorem Up{l l':AL}(hs:l.length=l'.length)(h:∀(i:Nat)(h:i < l.length)(h':i < l'.length),AF Z l[i] l'[i]):Af Z l l':=by
 induction l generalizing l' with
 | nil=>cases l' with
  | nil=>exact .nil
  | cons=>cases hs
 | cons a l ih=>cases l' with
  | nil=>cases hs
  | cons a' l'=>
   refine .cons (h 0 (by simp) (by simp)) (ih (by simpa using hs) fun i h1 h2=>?_);exact h (i+1) (by simpa using h1) (by simpa using h2)
theorem idx{l l':AL}(h:Af Z l l'):∀(i:Nat)(h:i < l.length)(h':i < l'.length),AF Z l[i] l'[i]:=by
 induction h with
 | nil=>intro i h;simp at h
 | cons h _ ih=>
  intro i h1 h2;cases i with
  | zero=>exact h
  | succ i=>exact ih i (by simpa using h1) (by simpa using h2)
theorem get?{l l':AL}(h:Af Z l l'){i:Nat}{v:Value}(hv:l[i]? = some v):∃v',l'[i]? = some v'/\AF Z v v':=by
 induction h generalizing i with
 | nil=>simp at hv
 | cons h _ ih=>
  cases i with
  | zero=>simp at hv;subst hv;exact⟨_,rfl,h⟩
  | succ i=>simp at hv;simpa using ih hv
theorem append{a a' b b':AL}(h:Af Z a a')(h':Af Z b b'):Af Z (a++b) (a'++b'):=by
 induction h with
 | nil=>exact h'
 | cons h _ ih=>exact .cons h ih
theorem take{l l':AL}(h:Af Z l l')(n:Nat):Af Z (l.take n) (l'.take n):=by
 induction h generalizing n with
 | nil=>simp;exact .nil
 | cons h _ ih=>cases n with
  | zero=>exact .nil
  | succ n=>exact .cons h (ih n)
theorem drop{l l':AL}(h:Af Z l l')(n:Nat):Af Z (l.drop n) (l'.drop n):=by
 induction h generalizing n with
 | nil=>simp;exact .nil
 | cons h t ih=>cases n with
  | zero=>exact .cons h t
  | succ n=>exact ih n
theorem set{l l':AL}(h:Af Z l l')(i:Nat){v v':Value}(hv:AF Z v v'):Af Z (l.set i v) (l'.set i v'):=by
 induction h generalizing i with
 | nil=>exact .nil
 | cons h t ih=>cases i with
  | zero=>exact .cons hv t
  | succ i=>exact .cons h (ih i)
theorem map{α:Type}(l:List α)(f g:α->Value)(h:∀x∈l,AF Z (f x) (g x)):Af Z (l.map f) (l.map g):=by
 induction l with
 | nil=>exact .nil
 | cons a l ih=>exact .cons (h a (by simp)) (ih fun x hx=>h x (by simp[hx]))
theorem replicate(n:Nat){v v':Value}(h:AF Z v v'):Af Z (List.replicate n v) (List.replicate n v'):=by
 induction n with
 | zero=>exact .nil
 | succ n ih=>exact .cons h ih
end Af
theorem AF.Cr{Z:AW}{xs:BE}{v':Value}:AF Z (.agg xs) v' <-> ∃xs',v'= .agg xs'/\Af Z xs.toList xs'.toList:=by
 constructor
 .intro h;cases h with
  | agg xs xs' hx ex=>exact⟨xs',rfl,.Up (by simpa using hx) fun i h1 h2=>by simpa using ex i (by simpa using h1) (by simpa using h2)⟩
 .rintro⟨xs',rfl,h⟩;exact .agg _ _ (by simpa using h.length) fun i h1 h2=>h.idx i (by simpa using h1) (by simpa using h2)
theorem AF.CM{Z:AW}{xs:BE}{v':Value}:AF Z (.tuple xs) v' <-> ∃xs',v'= .tuple xs'/\Af Z xs.toList xs'.toList:=by
 constructor
 .intro h;cases h with
  | tuple xs xs' hx ex=>exact⟨xs',rfl,.Up (by simpa using hx) fun i h1 h2=>by simpa using ex i (by simpa using h1) (by simpa using h2)⟩
 .rintro⟨xs',rfl,h⟩;exact .tuple _ _ (by simpa using h.length) fun i h1 h2=>h.idx i (by simpa using h1) (by simpa using h2)
theorem AF.Cd{Z:AW}{fn:Fn}{xs ys:BE}{v':Value}:AF Z (.func fn xs ys) v' <->
 ∃fn' xs' ys',v'= .func fn' xs' ys'/\Ic Z fn fn'/\Af Z xs.toList xs'.toList/\Af Z ys.toList ys'.toList:=by
 constructor
 .intro h;cases h with
  | func fn fn' xs xs' ys ys' hf hx ex hy ey=>
   exact⟨fn',xs',ys',rfl,hf,.Up (by simpa using hx) fun i h1 h2=>by simpa using ex i (by simpa using h1) (by simpa using h2),
    .Up (by simpa using hy) fun i h1 h2=>by simpa using ey i (by simpa using h1) (by simpa using h2)⟩
 .rintro⟨fn',xs',ys',rfl,hf,h,h'⟩;exact .func _ _ _ _ _ _ hf (by simpa using h.length) (fun i h1 h2=>h.idx i (by simpa using h1) (by simpa using h2))
   (by simpa using h'.length) (fun i h1 h2=>h'.idx i (by simpa using h1) (by simpa using h2))
def look(t:Tr Value)(i:Nat):Value:=(t.get i).getD Bo
def Gt(Z:AW)(t:Tr Value)(n:Nat)(a:BE):Prop:=a.size=n/\∀i,AF Z (look t i) (a.getD i Go.undef)
theorem Gt.mono{Z ν:AW}(hl:Z.le ν){t:Tr Value}{n:Nat}{a:BE}(h:Gt Z t n a):Gt ν t n a:=⟨h.1,fun i=>(h.2 i).mono hl⟩
theorem Gt.put{Z:AW}{t:Tr Value}{n:Nat}{a:BE}(h:Gt Z t n a){d:Nat}(hd:d < n){v v':Value}(hv:AF Z v v'):
 Gt Z (t.put d (some v)) n (a.setIfInBounds d v'):=by
 refine⟨by simp[h.1],fun i=>?_⟩;unfold look;rw[Tr.AQ]
 by_cases e:i=d
 .subst e;rw[AAZ rfl];have:(a.setIfInBounds i v').getD i Go.undef=v':=by
   rw[AAs,ABM];simp[h.1,hd]
  rw[this];exact hv
 .rw[AAW e];have:(a.setIfInBounds d v').getD i Go.undef=a.getD i Go.undef:=by
   rw[AAs,ABM];simp[Ne.symm e,Array.getD_eq_getD_getElem?]
  rw[this];exact h.2 i
inductive Iz(Z:AW):Target->Target->Prop where
 | fn (fn fn':Fn) (ys ys':BE) (hf:Ic Z fn fn') (hy:Af Z ys.toList ys'.toList):Iz Z (.fn fn ys) (.fn fn' ys')
 | nil:Iz Z .nil .nil
 | builtin (b:Builtin) (ts:Array TypeId) (t:TypeId) (cs:Array Bool):Iz Z (.builtin b ts t cs) (.builtin b ts t cs)
 | collected (r:Nat) (T:BQ) (h:Z r=some T):Iz Z (.collected r) (.collected T.c)
structure TT(Z:AW)(d d':Deferred):Prop where
 yH:Iz Z d.target d'.target
 args:Af Z d.args.toList d'.args.toList
theorem Iz.mono{Z ν:AW}(hl:Z.le ν){t t':Target}(h:Iz Z t t'):Iz ν t t':=by
 cases h with
 | fn fn fn' ys ys' hf hy=>exact .fn fn fn' ys ys' (hf.mono hl) (hy.mono hl)
 | nil=>exact .nil
 | builtin b ts t cs=>exact .builtin b ts t cs
 | collected r T h=>exact .collected r T (hl _ _ h)
theorem TT.mono{Z ν:AW}(hl:Z.le ν){d d':Deferred}(h:TT Z d d'):TT ν d d':=⟨h.yH.mono hl,h.args.mono hl⟩
inductive Ch(Z:AW):List Deferred->List Deferred->Prop where
 | nil:Ch Z [] []
 | cons {d d':Deferred} {l l':List Deferred} (h:TT Z d d') (t:Ch Z l l'):Ch Z (d::l) (d'::l')
theorem Ch.mono{Z ν:AW}(hl:Z.le ν){l l':List Deferred}(h:Ch Z l l'):Ch ν l l':=by
 induction h with
 | nil=>exact .nil
 | cons h _ ih=>exact .cons (h.mono hl) ih
theorem Ch.append{Z:AW}{a a' b b':List Deferred}(h:Ch Z a a')(h':Ch Z b b'):Ch Z (a++b) (a'++b'):=by
 induction h with
 | nil=>exact h'
 | cons h _ ih=>exact .cons h ih
structure gB where
 state:LoopState
 pending:Option Code
 fn:FuncId
 tmps:Tr Value
 n:Nat
 params:Array Tmp
 assign:Code
 body:Code
 defers:Nat
inductive AJ where
 | cells (cs:AL) (e:Nat) (ro:Bool)
 | loop (l:gB)
 | deferred (calls:Option (List Deferred))
 | Cv (s:Ag) (pos:Nat)
 | map (es:List MapEntry) (clock:Nat)
 | vec (k:EK) (l:List (EK.C k)) (ro:Bool)
 | abs (a:CR) (ro:Bool)
def AJ.ro:AJ->Bool
 | .cells _ _ ro=>ro
 | .vec _ _ ro=>ro
 | .abs _ ro=>ro
 | _=>false
def AJ.isAbs:AJ->Bool
 | .abs _ _=>true
 | _=>false
def AJ.void(T:BQ):AJ->Prop
 | .vec k l _=>l=[]/\T.r=0/\k.length≠0
 | .abs (.mem _ _) _=>True
 | .abs (.Bk _) _=>True
 | _=>False
def AJ.Kl:AJ->Bool
 | .cells _ _ _=>true
 | .vec _ _ _=>true
 | .abs _ _=>true
 | _=>false
inductive Jw(Z:AW):List MapEntry->List MapEntry->Prop where
 | nil:Jw Z [] []
 | cons {e e':MapEntry} {l l':List MapEntry} (hk:AF Z e.key e'.key) (hv:AF Z e.val e'.val) (hb:e.born=e'.born) (t:Jw Z l l'):Jw Z (e::l) (e'::l')
theorem Jw.mono{Z ν:AW}(hl:Z.le ν){l l':List MapEntry}(h:Jw Z l l'):Jw ν l l':=by
 induction h with
 | nil=>exact .nil
 | cons hk hv hb _ ih=>exact .cons (hk.mono hl) (hv.mono hl) hb ih
inductive Cb(Z:AW):BQ->AJ->Obj->Prop where
 | cells (T:BQ) (cs:AL) (e:Nat) (ro:Bool) (c:BE) (t:TypeId) (lo hi:Nat) (he:e=T.e) (hc:Af Z cs ((c.toList.drop T.d).take cs.length))
  (hr:c.size=T.d+T.r) (hf:ro=false->∀i,i < c.size\/(i=c.size/\e≠1)->¬(lo<=i/\i < hi)):Cb Z T (.cells cs e ro) (.cells c t (lo,hi))
 | loop (T:BQ) (l:gB) (a:BE) (R:BQ) (ht:Gt Z l.tmps l.n a) (hd:Z l.defers=some R):
  Cb Z T (.loop l) (.loop { state:=l.state,pending:=l.pending,fn:=l.fn,tmps:=a,params:=l.params,assign:=l.assign,body:=l.body,defers:=R.c })
 | El (T:BQ):Cb Z T (.deferred none) (.deferred none)
 | deferred (T:BQ) (l l':List Deferred) (h:Ch Z l l'):Cb Z T (.deferred (some l)) (.deferred (some l'))
 | Cv (T:BQ) (s:Ag) (p:Nat) (hd:T.d=0):Cb Z T (.Cv s p) (.stringIter s p)
 | map (T:BQ) (es:List MapEntry) (es':Array MapEntry) (clock:Nat) (h:Jw Z es es'.toList):Cb Z T (.map es clock) (.map es' clock)
 | vec (T:BQ) (k:EK) (l:List (EK.C k)) (ro:Bool) (o:Obj) (h:Cb Z T (.cells (Ac k l) k.length ro) o):Cb Z T (.vec k l ro) o
 | D7 (T:BQ) (k:EK) (ro:Bool) (o:Obj) (he:k.length=T.e) (hr:T.r=0) (hk:k.length≠0):Cb Z T (.vec k [] ro) o
 | abs (T:BQ) (a:CR) (ro:Bool) (o:Obj):Cb Z T (.abs a ro) o
theorem Cb.mono{Z ν:AW}(hl:Z.le ν){T:BQ}{o:AJ}{o':Obj}(h:Cb Z T o o'):Cb ν T o o':=by
 induction h with
 | cells cs e ro c t lo hi he hc hr hf=>exact .cells T cs e ro c t lo hi he (hc.mono hl) hr hf
 | loop l a R ht hd=>exact .loop T l a R (ht.mono hl) (hl _ _ hd)
 | El=>exact .El T
 | deferred l l' h=>exact .deferred T l l' (h.mono hl)
 | Cv s p hd=>exact .Cv T s p hd
 | map es es' clock h=>exact .map T es es' clock (h.mono hl)
 | vec k l ro o _ ih=>exact .vec T k l ro o ih
 | D7 k ro o he hr hk=>exact .D7 T k ro o he hr hk
 | abs a ro o=>exact .abs T a ro o
abbrev Bz:=Value->List (Option AJ)->Prop
abbrev J9:=List (Option AJ)
abbrev Ay:=List AJ
end Go.AB
namespace Go.AB
abbrev cU:Nat:=18446744073709551616
def ED(a n:Nat):List (EK.C [.tok]):=(List.range n).map fun j=>Value.pointer (some ⟨a,cU,some j⟩)
def DM(a:Nat)(S:List (A6)):List (EK.C [.tok]):=S.zipIdx.map fun p=>Value.slice (some ⟨a,1,some p.2⟩) p.1.length cU
def CS(a:Nat)(K:List (Ag × A6)):List (EK.C [.str,.tok]):=K.zipIdx.map fun p=>(p.1.1,Value.slice (some ⟨a,1,some p.2⟩) p.1.2.length cU)
abbrev Ak:EK:=[.int .i64,.str,.bool,.int .i64,.int .i64,.int .i64]
inductive Bh:Pk->Ay->Prop where
 | EW (m:AX) (h:FI m):Bh (.EW m) [.cells [.slice (some ⟨1,0,some 0⟩) m.b.length cU,.int .i64 m.size,.int .i64 m.HT] 0 false,.vec [.int .u8] m.b false]
 | Bt (L:List AX) (h:0 < L.length) (h2:L.length<=34):Bh (.Bt L) [.cells [.slice (some ⟨1,0,some 0⟩) L.length cU] 0 false,.vec [.tok] (ED 2 L.length) false,.abs (.Bk (L.map fun m=>some (.EW m))) false]
 | ZB:Bh (.timer none) [.cells [.bool true,.pointer none] 0 false]
 | Xv (p:BG) (h:Ip p):Bh (.timer (some p)) [.cells [.bool true,.pointer (some ⟨1,0,none⟩)] 0 false,.cells [.int .i64 p.at_,.bool p.done,.slice (some ⟨2,0,some 0⟩) p.Ao.length cU] 0 false,.vec [.int .i64] p.Ao false]
 | dev (d:A4) (h:Fp d):Bh (.dev d) [.cells [.pointer (some ⟨1,0,none⟩),.pointer (some ⟨2,0,none⟩),.int .i64 d.AO,.int .i64 d.ops,.bool d.down] 0 false,.abs (.pack (.Bt d.BI)) false,.abs (.pack (.timer d.BP)) false]
 | tab (t:B4) (h:HL t):Bh (.tab t) [.cells [.int .i64 t.st.length,.int .i64 t.res,.pointer (some ⟨1,0,none⟩),.pointer (some ⟨2,0,none⟩),.pointer (some ⟨3,0,none⟩),.pointer (some ⟨4,0,none⟩),.pointer (some ⟨5,0,none⟩)] 0 false,
  .cells [.int .i64 t.st.length,.int .u64 (Dm t.st 0)] 0 false,.cells [.int .i64 t.st.length,.int .u64 (Dm t.st 1)] 0 false,.cells [.int .i64 t.st.length,.int .u64 (Dm t.st 2)] 0 false,.cells [.int .i64 t.st.length,.int .u64 (Dm t.st 3)] 0 false,.cells [.int .i64 t.st.length,.int .u64 (Dm t.st 4)] 0 false]
 | idx (x:B6):Bh (.idx x) [.cells [.pointer (some ⟨1,0,none⟩),.slice (some ⟨2,0,some 0⟩) x.AO.length cU] 0 false,.cells [.bool true,.slice (some ⟨3,0,some 0⟩) x.keys.length cU] 0 false,
  .vec [.tok] (DM 4 x.AO) false,.vec [.str,.tok] (CS 5 x.keys) false,.abs (.mem Ak (x.AO.map some)) false,.abs (.mem Ak (x.keys.map fun p=>some p.2)) false]
def DO:Pk->AP
 | _=>[]
structure AA where
 m:Tr AJ
 next:Nat
def AA.get(H:AA)(b:Nat):Option AJ:=H.m.get b
def AA.put(H:AA)(b:Nat)(o:AJ):AA:=⟨H.m.put b (some o),H.next⟩
def AA.del(H:AA)(b:Nat):AA:=⟨H.m.put b none,H.next⟩
def AA.alloc(H:AA)(o:AJ):AA:=⟨H.m.put H.next (some o),H.next+1⟩
theorem AA.AQ(H:AA)(b i:Nat)(o:AJ):(H.put b o).get i=if i=b then some o else H.get i:=Tr.AQ ..
theorem AA.BK(H:AA)(b i:Nat):(H.del b).get i=if i=b then none else H.get i:=Tr.AQ ..
theorem AA.AN(H:AA)(i:Nat)(o:AJ):(H.alloc o).get i=if i=H.next then some o else H.get i:=Tr.AQ ..
theorem SB{W W':World}{e:TypeId}{v:Value}{n:Nat}{xs:AL}(h:W.ownsRowF 0 e 1 v n xs)(hs:∀i,v.ownBlock=some i->W'.heap[i]? = W.heap[i]?):W'.ownsRowF 0 e 1 v n xs:=by
 obtain⟨h1,h2⟩:=h;refine⟨h1,?_⟩;rcases h2 with h2 | ⟨g,cap,cur,fz,rfl,h3,h4,h5⟩
 .exact .inl h2
 .exact .inr ⟨g,cap,cur,fz,rfl,h3,by rw[hs g rfl];exact h4,h5⟩
theorem Ww{W:World}{e:TypeId}{v:Value}{n:Nat}{xs:AL}(h:W.ownsRowF 0 e 1 v n xs){i:Nat}(hi:v.ownBlock=some i):i < W.heap.size:=by
 obtain⟨h1,h2⟩:=h;rcases h2 with⟨rfl,_⟩ | ⟨g,cap,cur,fz,rfl,h3,h4,h5⟩
 .cases hi
 .have hi:g=i:=by simpa [Value.ownBlock] using hi
  subst hi;rcases AAt g W.heap.size with h' | h'
  .exact h'
  .rw[ABo h']at h4;cases h4
def GV(t e:TypeId)(l:List UInt8)(T:BQ)(F:Nat->Prop)(W:World):Prop:=T.d=0/\∃p v:Value,(p= .pointer none\/p= .pointer (some ⟨T.c,0,none⟩))/\W.heap[T.c]? = some (.cells #[p,v] t (0,0))/\W.ownsRowF 0 e 1 v l.length (Lib.byteCells l)/\v.ownBlock≠some T.c/\
 ∀i,F i <-> i=T.c\/v.ownBlock=some i
def QZ(ν:AW)(ts:List BQ)(ext:AP):AW:=fun b=>if b < ts.length then ts[b]? else match ext[b - ts.length]? with
 | some m=>ν m
 | none=>none
theorem ax{ν:AW}{ts:List BQ}{ext:AP}{b:Nat}(h:b < ts.length):QZ ν ts ext b=ts[b]?:=AAZ h
theorem kD(ν ν':AW)(ts:List BQ):QZ ν ts []=QZ ν' ts []:=by
 funext b
 unfold QZ;split
 .rfl
 .rfl
theorem ow{ν ν':AW}(h:ν.le ν')(ts:List BQ)(ext:AP):(QZ ν ts ext).le (QZ ν' ts ext):=by
 intro b X hX;unfold QZ at hX ⊢;split at hX
 .rename_i hb;rw[AAZ hb];exact hX
 .rename_i hb;rw[AAW hb];split at hX
  .rename_i m hm;exact h _ _ hX
  .cases hX
theorem Cb.rp{Z:AW}(ν:AW){T:BQ}{o:AJ}{o':Obj}(h:Cb Z T o o')(hv:o.void T)(o2:Obj):Cb ν T o o2:=by
 cases o<;>first | (exact hv.elim) | (exact .abs ..) | skip
 rename_i k l ro;obtain⟨hl0,hr0,hk⟩:=hv;subst hl0;have he:k.length=T.e:=by
  cases h with
  | vec _ _ _ _ hc=>cases hc with
   | cells _ _ _ _ _ _ _ he=>exact he
  | D7 _ _ _ he hr=>exact he
 exact .D7 T k ro _ he hr0 hk
theorem Cb.Ao{Z:AW}{T:BQ}{o:AJ}{W W':World}(h:∃o',W.heap[T.c]? = some o'/\Cb Z T o o')(hsz:W.heap.size<=W'.heap.size)(hs:¬o.void T->W'.heap[T.c]? = W.heap[T.c]?):∃o',W'.heap[T.c]? = some o'/\Cb Z T o o':=by
 obtain⟨o',h1,h2⟩:=h
 by_cases hv:o.void T
 .have hl:T.c < W'.heap.size:=by
   refine ABR ?_ hsz;rcases AAt T.c W.heap.size with h' | h'
   .exact h'
   .rw[ABo h']at h1;cases h1
  exact⟨_,ABA hl,h2.rp Z hv _⟩
 .exact⟨o',by rw[hs hv];exact h1,h2⟩
theorem lt_of_heap{W:World}{i:Nat}{o:Obj}(h:W.heap[i]? = some o):i < W.heap.size:=by
 rcases AAt i W.heap.size with h' | h'
 .exact h'
 .rw[ABo h']at h;cases h
structure ML(k:EK)(L:List (Option (List (EK.C k))))(T:BQ)(F:Nat->Prop)(W:World)(ts:List BQ):Prop where
 code:T.e=CO ts
 len:ts.length=L.length
 ZJ:T.c < W.heap.size
 row:∀(j:Nat)(M:BQ)(l:List (EK.C k)),ts[j]? = some M->L[j]? = some (some l)->∃o',W.heap[M.c]? = some o'/\Cb (fun _=>none) M (.vec k l false) o'
 inj:∀(i j:Nat)(M N:BQ)(l m:List (EK.C k)),ts[i]? = some M->ts[j]? = some N->L[i]? = some (some l)->L[j]? = some (some m)->¬(AJ.vec k l false).void M->¬(AJ.vec k m false).void N->M.c=N.c->i=j
 own:∀x,F x <-> ∃(j:Nat) (M:BQ) (l:List (EK.C k)),ts[j]? = some M/\L[j]? = some (some l)/\¬(AJ.vec k l false).void M/\x=M.c
theorem ML.loc{k:EK}{L:List (Option (List (EK.C k)))}{T:BQ}{F:Nat->Prop}{W W':World}{ts:List BQ}(hsz:W.heap.size<=W'.heap.size)(h:ML k L T F W ts)(hs:∀i,F i->W'.heap[i]? = W.heap[i]?):ML k L T F W' ts:=
 ⟨h.code,h.len,ABR h.ZJ hsz,fun j M l h1 h2=>Cb.Ao (h.row j M l h1 h2) hsz fun hv=>hs _ ((h.own _).2 ⟨j,M,l,h1,h2,hv,rfl⟩),h.inj,h.own⟩
theorem ML.JO{k:EK}{L:List (Option (List (EK.C k)))}{T:BQ}{F:Nat->Prop}{W:World}{ts:List BQ}(h:ML k L T F W ts):∀i,F i->i < W.heap.size:=fun i hi=>by
 obtain⟨j,M,l,h1,h2,_,rfl⟩:=(h.own i).1 hi;obtain⟨o',h3,_⟩:=h.row j M l h1 h2;exact lt_of_heap h3
structure Oo(L:List (Option Pk))(T:BQ)(F:Nat->Prop)(W:World)(us:List BQ)(Fm:Nat->Nat->Prop):Prop where
 code:T.e=CO us
 len:us.length=L.length
 ZJ:T.c < W.heap.size
 ext:∀(j:Nat)(s:Pk),L[j]? = some (some s)->DO s=[]
 w8:∀(i j x:Nat)(s t:Pk),L[i]? = some (some s)->L[j]? = some (some t)->Fm i x->Fm j x->i=j
 own:∀x,F x <-> ∃(j:Nat) (s:Pk),L[j]? = some (some s)/\Fm j x
theorem Oo.at{L:List (Option Pk)}{T:BQ}{F:Nat->Prop}{W:World}{us:List BQ}{Fm:Nat->Nat->Prop}(h:Oo L T F W us Fm){j:Nat}{s:Pk}(hj:L[j]? = some (some s)):∃M,us[j]? = some M:=
 ⟨_,AAU (by rw[h.len];exact(List.getElem?_eq_some_iff.1 hj).1)⟩
theorem Oo.grow{L:List (Option Pk)}{T:BQ}{F:Nat->Prop}{W W':World}{us:List BQ}{Fm:Nat->Nat->Prop}(h:Oo L T F W us Fm)(hsz:W.heap.size<=W'.heap.size):Oo L T F W' us Fm:=
 ⟨h.code,h.len,ABR h.ZJ hsz,h.ext,h.w8,h.own⟩
inductive Fv(ν:AW)(W:World):Pk->BQ->(Nat->Prop)->Prop where
 | mk (s:Pk) (objs:Ay) (ts:List BQ) (Fs:Nat->Nat->Prop) (T:BQ) (F:Nat->Prop) (hr:Bh s objs) (hl:ts.length=objs.length) (hT:ts[0]? = some T)
  (hroot:∀o,objs[0]? = some o->¬o.void T)
  (hobj:∀(i:Nat)(o:AJ)(T':BQ),objs[i]? = some o->ts[i]? = some T'->o.ro=false/\o.Kl=true/\∃o',W.heap[T'.c]? = some o'/\Cb (QZ ν ts (DO s)) T' o o')
  (hcell:∀(i:Nat)(o:AJ)(T':BQ),objs[i]? = some o->ts[i]? = some T'->o.isAbs=false->∀x,Fs i x <-> (x=T'.c/\¬o.void T'))
  (hbld:∀(i:Nat)(t e:TypeId)(l:List UInt8)(ro:Bool)(T':BQ),objs[i]? = some (.abs (.eX t e l) ro)->ts[i]? = some T'->GV t e l T' (Fs i) W)
  (hmem:∀(i:Nat)(k:EK)(L:List (Option (List (EK.C k))))(ro:Bool)(T':BQ),objs[i]? = some (.abs (.mem k L) ro)->ts[i]? = some T'->∃us,ML k L T' (Fs i) W us)
  (hext:∀(i:Nat)(s':Pk)(ro:Bool),objs[i]? = some (.abs (.pack s') ro)->DO s'=[])
  (hpack:∀(i:Nat)(s':Pk)(ro:Bool)(T':BQ),objs[i]? = some (.abs (.pack s') ro)->ts[i]? = some T'->Fv ν W s' T' (Fs i))
  (hdis:∀(i j x:Nat),i < objs.length->j < objs.length->Fs i x->Fs j x->i=j)
  (hF:∀x,F x <-> ∃i,i < objs.length/\Fs i x) (us:Nat->List BQ) (Fm:Nat->Nat->Nat->Prop)
  (hmp:∀(i:Nat)(L:List (Option Pk))(ro:Bool)(T':BQ),objs[i]? = some (.abs (.Bk L) ro)->ts[i]? = some T'->Oo L T' (Fs i) W (us i) (Fm i))
  (hmq:∀(i:Nat)(L:List (Option Pk))(ro:Bool)(j:Nat)(M:BQ)(s':Pk),objs[i]? = some (.abs (.Bk L) ro)->(us i)[j]? = some M->L[j]? = some (some s')->Fv ν W s' M (Fm i j)):Fv ν W s T F
def Ga(ν:AW):CR->BQ->(Nat->Prop)->World->Prop
 | .eX t e l,T,F,W=>GV t e l T F W
 | .pack s,T,F,W=>Fv ν W s T F
 | .mem k L,T,F,W=>∃us,ML k L T F W us
 | .Bk L,T,F,W=>∃us Fm,Oo L T F W us Fm/\∀(j:Nat)(M:BQ)(s:Pk),us[j]? = some M->L[j]? = some (some s)->Fv ν W s M (Fm j)
theorem GV.loc{t e:TypeId}{l:List UInt8}{T:BQ}{F:Nat->Prop}{W W':World}(h:GV t e l T F W)(hs:∀i,F i->W'.heap[i]? = W.heap[i]?):GV t e l T F W':=by
 obtain⟨hd,p,v,h1,h2,h3,h4,h5⟩:=h;exact⟨hd,p,v,h1,by rw[hs _ ((h5 _).2 (.inl rfl))];exact h2,SB h3 (fun i hi=>hs i ((h5 i).2 (.inr hi))),h4,h5⟩
theorem GV.JO{t e:TypeId}{l:List UInt8}{T:BQ}{F:Nat->Prop}{W:World}(h:GV t e l T F W):F T.c/\∀i,F i->i < W.heap.size:=by
 obtain⟨hd,p,v,h1,h2,h3,h4,h5⟩:=h;refine⟨(h5 _).2 (.inl rfl),fun i hi=>?_⟩;rcases(h5 i).1 hi with rfl | hi
 .rcases AAt T.c W.heap.size with h' | h'
  .exact h'
  .rw[ABo h']at h2;cases h2
 .exact Ww h3 hi
theorem Ft{o:AJ}(h:o.isAbs=true):∃a ro,o= .abs a ro:=by
 cases o<;>first | exact⟨_,_,rfl⟩ | cases h
theorem Fv.JO{ν:AW}{W:World}{s:Pk}{T:BQ}{F:Nat->Prop}(h:Fv ν W s T F):F T.c/\∀i,F i->i < W.heap.size:=by
 induction h with
 | mk s objs ts Fs T F hr hl hT hroot hobj hcell hbld hmem hext hpack hdis hF us Fm hmp hmq ih ihq=>
  have one:∀i,i < objs.length->∃o T',objs[i]? = some o/\ts[i]? = some T'/\(¬o.void T'->Fs i T'.c)/\∀x,Fs i x->x < W.heap.size:=by
   intro i hi;have ho:=AAU hi;have ht:=AAU (l:=ts) (i:=i) (by omega);refine⟨_,_,ho,ht,?_⟩;cases hab:(objs[i]).isAbs
   .have hc:=hcell i _ _ ho ht hab;obtain⟨_,_,o',h1,_⟩:=hobj i _ _ ho ht;exact⟨fun hv=>(hc _).2 ⟨rfl,hv⟩,fun x hx=>by rw[((hc x).1 hx).1];exact lt_of_heap h1⟩
   .obtain⟨a,ro,ha⟩:=Ft hab;rw[ha]at ho;cases a with
    | eX t e l=>exact⟨fun _=>(GV.JO (hbld i t e l ro _ ho ht)).1,(GV.JO (hbld i t e l ro _ ho ht)).2⟩
    | pack s'=>exact⟨fun _=>(ih i s' ro _ ho ht).1,(ih i s' ro _ ho ht).2⟩
    | mem k L=>obtain⟨us,hu⟩:=hmem i k L ro _ ho ht;exact⟨fun hv=>absurd (by rw[ha];trivial) hv,hu.JO⟩
    | Bk L=>
     refine⟨fun hv=>absurd (by rw[ha];trivial) hv,fun x hx=>?_⟩;have hu:=hmp i L ro _ ho ht;obtain⟨j,s',h1,h2⟩:=(hu.own x).1 hx;obtain⟨M,hM⟩:=hu.at h1;exact(ihq i L ro j M s' ho hM h1).2 x h2
  have h0:0 < objs.length:=by
   rcases AB4 objs.length with h | h
   .rw[AAq (by omega)]at hT;cases hT
   .exact h
  obtain⟨o,T',e0,e1,e2,_⟩:=one 0 h0;rw[hT]at e1;cases e1
  refine⟨(hF _).2 ⟨0,h0,e2 (hroot o e0)⟩,fun x hx=>?_⟩;obtain⟨i,hi,hx⟩:=(hF x).1 hx;obtain⟨_,_,_,_,_,e3⟩:=one i hi;exact e3 x hx
theorem Fv.loc{ν:AW}{W W':World}(hsz:W.heap.size<=W'.heap.size){s:Pk}{T:BQ}{F:Nat->Prop}(h:Fv ν W s T F):(∀i,F i->W'.heap[i]? = W.heap[i]?)->Fv ν W' s T F:=by
 induction h with
 | mk s objs ts Fs T F hr hl hT hroot hobj hcell hbld hmem hext hpack hdis hF us Fm hmp hmq ih ihq=>
  intro hs;have hin:∀i,i < objs.length->∀x,Fs i x->W'.heap[x]? = W.heap[x]?:=fun i hi x hx=>hs x ((hF x).2 ⟨i,hi,hx⟩)
  have lt:∀(i:Nat)(o:AJ),objs[i]? = some o->i < objs.length:=fun i o ho=>(List.getElem?_eq_some_iff.1 ho).1
  refine .mk s objs ts Fs T F hr hl hT hroot ?_ hcell ?_ ?_ hext ?_ hdis hF us Fm (fun i L ro T' ho ht=>(hmp i L ro T' ho ht).grow hsz) ?_
  .intro i o T' ho ht;obtain⟨h1,h2,o',h3,h4⟩:=hobj i o T' ho ht;refine⟨h1,h2,?_⟩
   by_cases hv:o.void T'
   .have hl':T'.c < W'.heap.size:=ABR (lt_of_heap h3) hsz;refine⟨W'.heap[T'.c],ABA hl',?_⟩;cases o<;>first | (exact hv.elim) | (exact .abs ..) | skip
    rename_i k l ro;obtain⟨hl0,hr0,hk⟩:=hv;subst hl0;have he:k.length=T'.e:=by
     cases h4 with
     | vec _ _ _ _ hc=>cases hc with
      | cells _ _ _ _ _ _ _ he=>exact he
     | D7 _ _ _ he hr=>exact he
    exact .D7 T' k ro _ he hr0 hk
   .refine⟨o',?_,h4⟩;rw[hin i (lt i o ho)]
    .exact h3
    .cases hab:o.isAbs
     .exact(hcell i o T' ho ht hab _).2 ⟨rfl,hv⟩
     .obtain⟨a,ro,rfl⟩:=Ft hab;cases a with
      | eX t e l=>exact(GV.JO (hbld i t e l ro T' ho ht)).1
      | pack s'=>exact(Fv.JO (hpack i s' ro T' ho ht)).1
      | mem k L=>exact absurd trivial hv
      | Bk L=>exact absurd trivial hv
  .intro i t e l ro T' ho ht;exact(hbld i t e l ro T' ho ht).loc (hin i (lt i _ ho))
  .intro i k L ro T' ho ht;obtain⟨us,hu⟩:=hmem i k L ro T' ho ht;exact⟨us,hu.loc hsz (hin i (lt i _ ho))⟩
  .intro i s' ro T' ho ht;exact ih i s' ro T' ho ht (hin i (lt i _ ho))
  .intro i L ro j M s' ho hM hj;have hi:=lt i _ ho;obtain⟨T',ht⟩:∃T',ts[i]? = some T':=⟨_,AAU (by omega)⟩
   exact ihq i L ro j M s' ho hM hj fun x hx=>hin i hi x (((hmp i L ro T' ho ht).own x).2 ⟨j,s',hj,hx⟩)
theorem Fv.mono{ν ν':AW}(hle:ν.le ν'){W:World}{s:Pk}{T:BQ}{F:Nat->Prop}(h:Fv ν W s T F):Fv ν' W s T F:=by
 induction h with
 | mk s objs ts Fs T F hr hl hT hroot hobj hcell hbld hmem hext hpack hdis hF us Fm hmp hmq ih ihq=>
  refine .mk s objs ts Fs T F hr hl hT hroot (fun i o T' ho ht=>?_) hcell hbld hmem hext ih hdis hF us Fm hmp ihq;obtain⟨h1,h2,o',h3,h4⟩:=hobj i o T' ho ht;exact⟨h1,h2,o',h3,h4.mono (ow hle _ _)⟩
theorem Fv.closed{ν:AW}(ν':AW){W:World}{s:Pk}{T:BQ}{F:Nat->Prop}(h:Fv ν W s T F):DO s=[]->Fv ν' W s T F:=by
 induction h with
 | mk s objs ts Fs T F hr hl hT hroot hobj hcell hbld hmem hext hpack hdis hF us Fm hmp hmq ih ihq=>
  intro he;refine .mk s objs ts Fs T F hr hl hT hroot (fun i o T' ho ht=>?_) hcell hbld hmem hext (fun i s' ro T' ho ht=>ih i s' ro T' ho ht (hext i s' ro ho)) hdis hF us Fm hmp (fun i L ro j M s' ho hM hj=>ihq i L ro j M s' ho hM hj (by
   have hi:=(List.getElem?_eq_some_iff.1 ho).1;exact(hmp i L ro _ ho (AAU (by omega))).ext j s' hj))
  obtain⟨h1,h2,o',h3,h4⟩:=hobj i o T' ho ht;refine⟨h1,h2,o',h3,?_⟩;rw[he]at h4 ⊢;rw[kD ν' ν];exact h4
theorem Ga.loc:∀{ν:AW} a T F (W W':World),W.heap.size<=W'.heap.size->Ga ν a T F W->(∀i,F i->W'.heap[i]? = W.heap[i]?)->Ga ν a T F W':=by
 intro ν a T F W W' hsz h hs;cases a with
 | eX t e l=>exact GV.loc h hs
 | pack s=>exact Fv.loc hsz h hs
 | mem k L=>obtain⟨us,hu⟩:=h;exact⟨us,hu.loc hsz hs⟩
 | Bk L=>
  obtain⟨us,Fm,h1,h2⟩:=h;exact⟨us,Fm,h1.grow hsz,fun j M s hM hj=>Fv.loc hsz (h2 j M s hM hj) fun x hx=>hs x ((h1.own x).2 ⟨j,s,hj,hx⟩)⟩
theorem Ga.mono{ν ν':AW}(hle:ν.le ν'){a:CR}{T:BQ}{F:Nat->Prop}{W:World}(h:Ga ν a T F W):Ga ν' a T F W:=by
 cases a with
 | eX t e l=>exact h
 | pack s=>exact Fv.mono hle h
 | mem k L=>exact h
 | Bk L=>obtain⟨us,Fm,h1,h2⟩:=h;exact⟨us,Fm,h1,fun j M s hM hj=>Fv.mono hle (h2 j M s hM hj)⟩
theorem Ga.JO:∀{ν:AW} a T F W,Ga ν a T F W->(¬(AJ.abs a false).void T->F T.c)/\∀i,F i->i < W.heap.size:=by
 intro ν a T F W h;cases a with
 | eX t e l=>exact⟨fun _=>(GV.JO h).1,(GV.JO h).2⟩
 | pack s=>exact⟨fun _=>(Fv.JO h).1,(Fv.JO h).2⟩
 | mem k L=>obtain⟨us,hu⟩:=h;exact⟨fun hv=>absurd trivial hv,hu.JO⟩
 | Bk L=>
  obtain⟨us,Fm,h1,h2⟩:=h;refine⟨fun hv=>absurd trivial hv,fun x hx=>?_⟩;obtain⟨j,s,g1,g2⟩:=(h1.own x).1 hx;obtain⟨M,hM⟩:=h1.at g1;exact(Fv.JO (h2 j M s hM g1)).2 x g2
def CR.ext:CR->AP
 | .eX _ _ _=>[]
 | .pack s=>DO s
 | .mem _ _=>[]
 | .Bk _=>[]
def xe:AP->Bool
 | []=>true
 | _=>false
def CR.HY(a:CR):Bool:=xe a.ext
theorem CR.Qu{a:CR}(h:a.HY=true):a.ext=[]:=by
 unfold CR.HY at h;cases he:a.ext with
 | nil=>rfl
 | cons x l=>rw[he]at h;cases h
theorem Ga.closed{ν:AW}(ν':AW){a:CR}{T:BQ}{F:Nat->Prop}{W:World}(h:Ga ν a T F W)(he:a.ext=[]):Ga ν' a T F W:=by
 cases a with
 | eX t e l=>exact h
 | pack s=>exact Fv.closed ν' h he
 | mem k L=>exact h
 | Bk L=>obtain⟨us,Fm,h1,h2⟩:=h;exact⟨us,Fm,h1,fun j M s hM hj=>Fv.closed ν' (h2 j M s hM hj) (h1.ext j s hj)⟩
structure Env where
 K:Nat->Prop
 gN:AW
structure qY(base:Env)(Z:AW)(H:AA)(W:World)(φ:Nat->Nat->Prop):Prop where
 rep:∀b a ro T,H.get b=some (.abs a ro)->Z b=some T->Ga Z a T (φ b) W/\(ro=false->∀i,φ b i->¬base.K i)
 C3:∀b a ro T,H.get b=some (.abs a ro)->Z b=some T->∀b2 o2 T2,H.get b2=some o2->Z b2=some T2->b2≠b->(¬o2.void T2->¬φ b T2.c)/\(o2.isAbs=true->∀i,φ b i->¬φ b2 i)
theorem AA.BS{H:AA}{b i:Nat}{o:AJ}(e:(H.del b).get i=some o):i≠b/\H.get i=some o:=by
 rw[AA.BK]at e
 by_cases hi:i=b
 .rw[AAZ hi]at e;cases e
 .rw[AAW hi]at e;exact⟨hi,e⟩
structure AH(base:Env)(W0:World)(Z:AW)(H:AA)(W:World):Prop where
 obj:∀b o,H.get b=some o->∀T,Z b=some T->∃o',W.heap[T.c]? = some o'/\Cb Z T o o'
 own:∀b o,H.get b=some o->o.ro=false->∀T,Z b=some T->¬o.void T->¬base.K T.c
 inj:∀b1 b2 o1 o2,H.get b1=some o1->H.get b2=some o2->∀T1 T2,Z b1=some T1->Z b2=some T2->¬o1.void T1->¬o2.void T2->T1.c=T2.c->(o1.ro=false\/o2.ro=false)->b1=b2
 fresh:∀b,H.next<=b->H.get b=none/\Z b=none
 bound:∀b T,Z b=some T->T.c < W.heap.size
 size:∀i,base.K i->i < W.heap.size
 below:∀i,base.K i->W.heap[i]? = W0.heap[i]?
 out:W.output=W0.output
 os:W.os=W0.os
 abs:∃φ,qY base Z H W φ
 le:base.gN.le Z
 grow:W0.heap.size<=W.heap.size
structure Ah(Z:AW)(H:AA)(μ':AW)(H':AA):Prop where
 le:Z.le μ'
 next:H.next<=H'.next
 ghost:∀b,b < H.next->Z b=none->μ' b=none/\H'.get b=H.get b
theorem Ah.refl(Z:AW)(H:AA):Ah Z H Z H:=⟨AW.le_refl _,AAT _,fun _ _ h=>⟨h,rfl⟩⟩
theorem Ah.trans{Z ν ξ:AW}{H I J:AA}(h:Ah Z H ν I)(h':Ah ν I ξ J):Ah Z H ξ J:=
 ⟨AW.le_trans h.le h'.le,ABs h.next h'.next,fun b hb hm=>
  have h1:=h.ghost b hb hm;have h2:=h'.ghost b (ABR hb h.next) h1.1
  ⟨h2.1,h2.2.trans h1.2⟩⟩
section
variable {base:Env}{W0:World}{Z:AW}{H:AA}{W:World}
theorem AH.lt(h:AH base W0 Z H W){b:Nat}{o:AJ}(hb:H.get b=some o):b < H.next:=by
 rcases AAt b H.next with h' | h'
 .exact h'
 .rw[(h.fresh b h').1]at hb;cases hb
theorem AH.L9(h:AH base W0 Z H W){b:Nat}{x:BQ}(hb:Z b=some x):b < H.next:=by
 rcases AAt b H.next with h' | h'
 .exact h'
 .rw[(h.fresh b h').2]at hb;cases hb
theorem AH.drawn(h:AH base W0 Z H W)(n:Nat):AH base W0 Z H { W with drawn:=n }:=
 ⟨h.obj,h.own,h.inj,h.fresh,h.bound,h.size,h.below,h.out,h.os,let ⟨φ,q⟩:=h.abs;⟨φ,fun b a ro T h1 h2=>let ⟨r1,r2⟩:=q.rep b a ro T h1 h2;⟨Ga.loc _ _ _ W _ (AAT _) r1 (fun _ _=>rfl),r2⟩,q.C3⟩,h.le,h.grow⟩
theorem AH.update(h:AH base W0 Z H W){b:Nat}{T:BQ}{o o1:AJ}(hb:H.get b=some o)(hro:o.ro=false)(hm:Z b=some T){W':World}{o1':Obj}(hsz:W'.heap.size=W.heap.size)(hother:∀i,i≠T.c->W'.heap[i]? = W.heap[i]?)(hc:W'.heap[T.c]? = some o1')(ho:Cb Z T o1 o1')(hout:W'.output=W.output)(hos:W'.os=W.os)(hna1:o1.isAbs=false:=by rfl)(hsol:¬o.void T:=by exact id):
 AH base W0 Z (H.put b o1) W'/\Ah Z H Z (H.put b o1):=by
 have hbase:=h.own b o hb hro T hm hsol;refine⟨⟨?_,?_,?_,?_,?_,?_,?_,?_,?_,?_,h.le,by rw[hsz];exact h.grow⟩,⟨AW.le_refl _,AAT _,?_⟩⟩
 .intro b' o' hb' T' hm';rw[AA.AQ]at hb'
  by_cases e:b'=b
  .subst e;rw[AAZ rfl]at hb';cases hb'
   rw[hm]at hm';cases hm'
   exact⟨o1',hc,ho⟩
  .rw[AAW e]at hb';exact Cb.Ao (h.obj b' o' hb' T' hm') (by rw[hsz];exact AAT _) fun hv=>hother _ fun e'=>e (h.inj b' b _ _ hb' hb T' T hm' hm hv hsol e' (.inr hro))
 .intro b' o' hb' hro' T' hm' hv;rw[AA.AQ]at hb'
  by_cases e:b'=b
  .subst e;rw[hm]at hm';cases hm';exact hbase
  .rw[AAW e]at hb';exact h.own b' o' hb' hro' T' hm' hv
 .intro b1 b2 p1 p2 h1 h2 T1 T2 m1 m2 v1 v2 hcc hrr;rw[AA.AQ]at h1 h2
  by_cases e1:b1=b<;>by_cases e2:b2=b
  .rw[e1,e2]
  .subst e1;rw[AAW e2]at h2;rw[hm]at m1;cases m1;exact h.inj b1 b2 _ _ hb h2 _ T2 hm m2 hsol v2 hcc (.inl hro)
  .subst e2;rw[AAW e1]at h1;rw[hm]at m2;cases m2;exact h.inj b1 b2 _ _ h1 hb T1 _ m1 hm v1 hsol hcc (.inr hro)
  .rw[AAW e1]at h1;rw[AAW e2]at h2;exact h.inj b1 b2 _ _ h1 h2 T1 T2 m1 m2 v1 v2 hcc hrr
 .intro b' hb';have hlt:=h.lt hb;have hb2:H.next<=b':=hb';refine⟨?_,(h.fresh b' hb2).2⟩;rw[AA.AQ,AAW (by omega)];exact(h.fresh b' hb2).1
 .intro b' T' hm';rw[hsz];exact h.bound b' T' hm'
 .intro i hi;rw[hsz];exact h.size i hi
 .intro i hi;rw[hother i (by rintro rfl;exact hbase hi)];exact h.below i hi
 .rw[hout];exact h.out
 .rw[hos];exact h.os
 .obtain⟨φ,q⟩:=h.abs;have key:∀b' o',(H.put b o1).get b'=some o'->(b'=b/\o'=o1)\/(b'≠b/\H.get b'=some o'):=by
   intro b' o' hb';rw[AA.AQ]at hb'
   by_cases e:b'=b
   .rw[AAZ e]at hb';cases hb';exact .inl ⟨e,rfl⟩
   .rw[AAW e]at hb';exact .inr ⟨e,hb'⟩
  refine⟨φ,?_,?_⟩
  .intro b' a ro T' hb' hm';rcases key b' _ hb' with⟨_,e⟩ | ⟨hne,hb2⟩
   .rw[<-e]at hna1;cases hna1
   .obtain⟨r1,r2⟩:=q.rep b' a ro T' hb2 hm';have hfar:=(q.C3 b' a ro T' hb2 hm' b o T hb hm (ABB hne)).1 hsol;exact⟨Ga.loc _ _ _ _ _ (by rw[hsz];exact AAT _) r1 (fun i hi=>hother i (by rintro rfl;exact hfar hi)),r2⟩
  .intro b' a ro T' hb' hm' b2 o2 T2 hb2 hm2 hne2;rcases key b' _ hb' with⟨_,e⟩ | ⟨hne,hb3⟩
   .rw[<-e]at hna1;cases hna1
   .rcases key b2 _ hb2 with⟨rfl,rfl⟩ | ⟨hne3,hb4⟩
    .rw[hm]at hm2;cases hm2
     exact⟨fun _=>(q.C3 b' a ro T' hb3 hm' b2 o _ hb hm hne2).1 hsol,fun e=>by rw[hna1]at e;cases e⟩
    .exact q.C3 b' a ro T' hb3 hm' b2 o2 T2 hb4 hm2 hne2
 .intro b' hb' hm';refine⟨hm',?_⟩;rw[AA.AQ,AAW];rintro rfl;rw[hm]at hm';cases hm'
theorem AH.LM(h:AH base W0 Z H W){T:BQ}{o:AJ}{o':Obj}{W':World}(hsz:W.heap.size<=W'.heap.size)(hother:∀i,i < W.heap.size->i≠T.c->W'.heap[i]? = W.heap[i]?)(hne:∀b p T',H.get b=some p->Z b=some T'->¬p.void T'->T'.c≠T.c)(hφ:∃φ,qY base Z H W φ/\∀b a ro,H.get b=some (.abs a ro)->(∃T',Z b=some T')->¬φ b T.c)(hT:W'.heap[T.c]? = some o')(hbase:¬base.K T.c)(ho:Cb Z T o o')(hout:W'.output=W.output)(hos:W'.os=W.os)(hna:o.isAbs=false:=by rfl):
 AH base W0 (Z.ext H.next T) (H.alloc o) W'/\Ah Z H (Z.ext H.next T) (H.alloc o):=by
 have hn:=(h.fresh H.next (AAT _)).2;have hle:=AW.CV T hn;have hlt:T.c < W'.heap.size:=by
  rcases AAt T.c W'.heap.size with hh | hh
  .exact hh
  .rw[ABo hh]at hT;cases hT
 have key:∀i X,(Z.ext H.next T) i=some X->(i=H.next/\X=T)\/(i≠H.next/\Z i=some X):=by
  intro i X e
  by_cases hi:i=H.next
  .subst hi;rw[AW.AY]at e;cases e;exact .inl ⟨rfl,rfl⟩
  .rw[AW.BB _ _ hi]at e;exact .inr ⟨hi,e⟩
 refine⟨⟨?_,?_,?_,?_,?_,?_,?_,?_,?_,?_,AW.le_trans h.le hle,ABs h.grow hsz⟩,⟨hle,by simp[AA.alloc],?_⟩⟩
 .intro b p hb X hm;rcases key b X hm with⟨rfl,rfl⟩ | ⟨hne',hm'⟩
  .rw[AA.AN,AAZ rfl]at hb;cases hb
   exact⟨o',hT,ho.mono hle⟩
  .rw[AA.AN,AAW hne']at hb;obtain⟨o2,h2,h3⟩:=Cb.Ao (W':=W') (h.obj b p hb X hm') hsz fun hv=>hother _ (h.bound b X hm') (hne b p X hb hm' hv)
   exact⟨o2,h2,h3.mono hle⟩
 .intro b p hb hr X hm hv;rcases key b X hm with⟨rfl,rfl⟩ | ⟨hne',hm'⟩
  .exact hbase
  .rw[AA.AN,AAW hne']at hb;exact h.own b p hb hr X hm' hv
 .intro b1 b2 p1 p2 h1 h2 T1 T2 m1 m2 v1 v2 hcc hrr;rcases key b1 T1 m1 with⟨e1,rfl⟩ | ⟨n1,m1'⟩<;>rcases key b2 T2 m2 with⟨e2,e3⟩ | ⟨n2,m2'⟩
  .rw[e1,e2]
  .rw[AA.AN,AAW n2]at h2;exact absurd hcc.symm (hne b2 _ T2 h2 m2' v2)
  .rw[AA.AN,AAW n1]at h1;subst e3;exact absurd hcc (hne b1 _ T1 h1 m1' v1)
  .rw[AA.AN,AAW n1]at h1;rw[AA.AN,AAW n2]at h2
   exact h.inj b1 b2 _ _ h1 h2 T1 T2 m1' m2' v1 v2 hcc hrr
 .intro b hb;have hb':H.next+1<=b:=hb;refine⟨?_,?_⟩
  .rw[AA.AN,AAW (by omega)];exact(h.fresh b (by omega)).1
  .rw[AW.BB _ _ (by omega)];exact(h.fresh b (by omega)).2
 .intro b X hm;rcases key b X hm with⟨rfl,rfl⟩ | ⟨hne',hm'⟩
  .exact hlt
  .have:=h.bound b X hm';omega
 .intro i hi;have:=h.size i hi;omega
 .intro i hi;rw[hother i (h.size i hi) (by rintro rfl;exact hbase hi)];exact h.below i hi
 .rw[hout];exact h.out
 .rw[hos];exact h.os
 .obtain⟨φ,q,hq⟩:=hφ;have key2:∀b' p,(H.alloc o).get b'=some p->(b'=H.next/\p=o)\/(b'≠H.next/\H.get b'=some p):=by
   intro b' p hb';rw[AA.AN]at hb'
   by_cases e:b'=H.next
   .rw[AAZ e]at hb';cases hb';exact .inl ⟨e,rfl⟩
   .rw[AAW e]at hb';exact .inr ⟨e,hb'⟩
  refine⟨φ,?_,?_⟩
  .intro b' a ro T' hb' hm';rcases key2 b' _ hb' with⟨_,e⟩ | ⟨hne',hb2⟩
   .rw[<-e]at hna;cases hna
   .rw[AW.BB _ _ hne']at hm';obtain⟨r1,r2⟩:=q.rep b' a ro T' hb2 hm';exact⟨(Ga.loc _ _ _ _ _ hsz r1 (fun i hi=>hother i ((Ga.JO _ _ _ _ r1).2 i hi) (by rintro rfl;exact hq b' a ro hb2 ⟨T',hm'⟩ hi))).mono hle,r2⟩
  .intro b' a ro T' hb' hm' b2 o2 T2 hb2 hm2 hne2;rcases key2 b' _ hb' with⟨_,e⟩ | ⟨hne',hb3⟩
   .rw[<-e]at hna;cases hna
   .rw[AW.BB _ _ hne']at hm';rcases key2 b2 _ hb2 with⟨rfl,rfl⟩ | ⟨hne3,hb4⟩
    .rw[AW.AY]at hm2;cases hm2
     exact⟨fun _=>hq b' a ro hb3 ⟨T',hm'⟩,fun e=>by rw[hna]at e;cases e⟩
    .rw[AW.BB _ _ hne3]at hm2;exact q.C3 b' a ro T' hb3 hm' b2 o2 T2 hb4 hm2 hne2
 .intro b hb hm;have hb':b < H.next:=hb;refine⟨?_,?_⟩
  .rw[AW.BB _ _ (by omega)];exact hm
  .rw[AA.AN,AAW (by omega)]
theorem AH.alloc(h:AH base W0 Z H W){T:BQ}{o:AJ}{o':Obj}(hT:T.c=W.heap.size)(ho:Cb Z T o o')(hna:o.isAbs=false:=by rfl):
 AH base W0 (Z.ext H.next T) (H.alloc o) (W.alloc o')/\Ah Z H (Z.ext H.next T) (H.alloc o):=by
 have GM:∀i,i < W.heap.size->(W.alloc o').heap[i]? = W.heap[i]?:=by
  intro i hi;show(W.heap.push o')[i]? = W.heap[i]?;rw[ACU,AAW (by omega)]
 obtain⟨φ,q⟩:=h.abs;refine h.LM (by simp) (fun i hi _=>GM i hi) (fun b p T' hb hm=>by have:=h.bound b T' hm;omega) ⟨φ,q,fun b a ro hb ⟨T',hm⟩ hc=>?_⟩ ?_ (fun hk=>by have:=h.size _ hk;omega) ho rfl rfl hna
 .have:=(Ga.JO _ _ _ _ (q.rep b a ro T' hb hm).1).2 _ hc;omega
 rw[hT];show(W.heap.push o')[W.heap.size]? = some o';simp
theorem AH.del(h:AH base W0 Z H W){b:Nat}{T:BQ}(hm:Z b=some T):AH base W0 Z (H.del b) W/\Ah Z H Z (H.del b):=by
 have key:∀i o,(H.del b).get i=some o->i≠b/\H.get i=some o:=by
  intro i o e;rw[AA.BK]at e
  by_cases hi:i=b
  .rw[AAZ hi]at e;cases e
  .rw[AAW hi]at e;exact⟨hi,e⟩
 refine⟨⟨fun i o e=>h.obj i o (key i o e).2,fun i o e=>h.own i o (key i o e).2,fun b1 b2 o1 o2 h1 h2=>h.inj b1 b2 o1 o2 (key _ _ h1).2 (key _ _ h2).2,?_,h.bound,h.size,h.below,h.out,h.os,
  let ⟨φ,q⟩:=h.abs;⟨φ,fun b' a ro T' h1 h2=>q.rep b' a ro T' (key _ _ h1).2 h2,fun b' a ro T' h1 h2 b2 o2 T2 h3 h4 h5=>q.C3 b' a ro T' (key _ _ h1).2 h2 b2 o2 T2 (key _ _ h3).2 h4 h5⟩,h.le,h.grow⟩,
  ⟨AW.le_refl _,AAT _,?_⟩⟩
 .intro i hi;refine⟨?_,(h.fresh i hi).2⟩;rw[AA.BK]
  by_cases e:i=b
  .rw[AAZ e]
  .rw[AAW e];exact(h.fresh i hi).1
 .intro i hi hn;refine⟨hn,?_⟩;rw[AA.BK,AAW];rintro rfl;rw[hm]at hn;cases hn
theorem AH.cell(h:AH base W0 Z H W){b e i:Nat}{T:BQ}{cs:AL}{ro:Bool}{v:Value}(hb:H.get b=some (.cells cs e ro))(hm:Z b=some T)(hv:cs[i]? = some v):
 ∃v',W.cell? ⟨T.c,T.d+i,none⟩=some v'/\AF Z v v':=by
 obtain⟨o',ho',hr⟩:=h.obj b _ hb T hm;cases hr with
 | cells _ _ _ a t lo hi he hc hr hf=>
  obtain⟨v',h1,h2⟩:=hc.get? hv;refine⟨v',?_,h2⟩;simp only[World.cell?,ho'];rw[ABO]at h1;split at h1
  .rw[ABP]at h1;simpa using h1
  .cases h1
theorem AH.frozen(h:AH base W0 Z H W){b e i:Nat}{T:BQ}{cs:AL}{v:Value}(hb:H.get b=some (.cells cs e false))(hm:Z b=some T)(hv:cs[i]? = some v):
 W.frozen? ⟨T.c,T.d+i,none⟩=false:=by
 obtain⟨v',hc',_⟩:=h.cell hb hm hv;obtain⟨o',ho',hr⟩:=h.obj b _ hb T hm;cases hr with
 | cells _ _ _ a t lo hi he hc hr hf=>
  simp only[World.cell?,ho']at hc';simp only[World.frozen?,ho'];have hlt:T.d+i < a.size:=by
   rcases AAt (T.d+i) a.size with hh | hh
   .exact hh
   .rw[ABo hh]at hc';simp at hc'
  have:=hf rfl (T.d+i) (.inl hlt);simp only[ABf,ABE];omega
theorem AH.row(h:AH base W0 Z H W){b e off:Nat}{T:BQ}{cs l:AL}{ro:Bool}(hb:H.get b=some (.cells cs e ro))(hm:Z b=some T)(hl:(cs.drop off).take l.length=l)(P:Program):
 ∃l',Af Z l l'/\(loadCells ⟨T.c,T.d+off,none⟩ l.length).run P W= .ok l'.toArray W/\∀j v,l'[j]? = some v->W.cell? ⟨T.c,T.d+off+j,none⟩=some v:=by
 have key:∀(n:Nat)(l:AL),l.length=n->(∀j v,l[j]? = some v->cs[off+j]? = some v)->∃l',Af Z l l'/\∀j v,l'[j]? = some v->W.cell? ⟨T.c,T.d+off+j,none⟩=some v:=by
  intro n;induction n with
  | zero=>
   intro l hl _;obtain rfl:=AAp hl;exact⟨[],.nil,fun j v e=>by simp at e⟩
  | succ n ih=>
   intro l hl hj;obtain⟨l0,x,rfl⟩:∃l0 x,l=l0++[x]:=⟨l.dropLast,l.getLast (by intro e;subst e;simp at hl),(List.dropLast_concat_getLast _).symm⟩
   simp at hl;obtain⟨l',h1,h2⟩:=ih l0 hl fun j v e=>hj j v (by
    rw[ABD (by have:=(List.getElem?_eq_some_iff.1 e).1;exact this)];exact e)
   obtain⟨x',h3,h4⟩:=h.cell hb hm (hj l0.length x (by simp));refine⟨l'++[x'],h1.append (.cons h4 .nil),fun j v e=>?_⟩;rcases AAt j l'.length with hlt | hge
   .rw[ABD hlt]at e;exact h2 j v e
   .rw[ABG hge]at e;have hz:j - l'.length=0:=by
     rcases AB4 (j - l'.length)with e0 | e0
     .exact e0
     .rw[AAq (by simp;omega)]at e;cases e
    rw[hz]at e;simp at e;subst e
    have:j=l0.length:=by have:=h1.length;omega
    subst this;rw[ABH];exact h3
 obtain⟨l',h1,h2⟩:=key l.length l rfl (fun j v e=>by
  rw[<-hl,ABO]at e;split at e
  .rwa [ABP]at e
  .cases e)
 refine⟨l',h1,?_,h2⟩;rw[h1.length];exact run_loadCells_list W _ l' fun j v e=>by
  have:=h2 j v e;have hadd:(⟨T.c,T.d+off,none⟩:Addr).add j=⟨T.c,T.d+off+j,none⟩:=by unfold Addr.add;split<;>simp_all
  rw[hadd];exact this
theorem SJ(c:AL)(d n i:Nat)(v:Value)(hi:i < n):((c.set (d+i) v).drop d).take n=((c.drop d).take n).set i v:=by
 apply ACE
 intro j;rw[ABO,ABP,AAe,AAe,ABO,ABP]
 by_cases hj:j < n<;>by_cases e:i=j
 .subst e;simp[hj]
  by_cases hs:d+i < c.length
  .simp[hs];omega
  .simp[hs];omega
 .simp[hj,e]
 .omega
 .simp[hj,e]
theorem AH.tz(h:AH base W0 Z H W){b e i:Nat}{T:BQ}{cs:AL}{v v':Value}(hb:H.get b=some (.cells cs e false))(hm:Z b=some T)(hi:i < cs.length)(hv:AF Z v v'):
 AH base W0 Z (H.put b (.cells (cs.set i v) e false)) (W.setCell ⟨T.c,T.d+i,none⟩ v')/\Ah Z H Z (H.put b (.cells (cs.set i v) e false)):=by
 obtain⟨o',ho',hr⟩:=h.obj b _ hb T hm;cases hr with
 | cells _ _ _ a t lo hi' he hc hr hf=>
  refine h.update (o1':= .cells (a.setIfInBounds (T.d+i) v') t (lo,hi')) hb rfl hm (by simp) (fun j hj=>?_) ?_ ?_ rfl rfl
  .simp only[World.setCell,AB2];rw[AAW (ABB hj)]
  .simp only[World.setCell,AB2,ACA,ho'];rfl
  .refine .cells T _ _ false _ t lo hi' he ?_ (by simpa using hr) (fun _ j hj=>hf rfl j (by simpa using hj));have hlen:=hc.length;rw[AAk,ACH,SJ _ _ _ _ _ hi];exact hc.set i hv
theorem Zp(H:AA)(b:Nat)(x y:AJ):(H.put b x).put b y=H.put b y:=by
 unfold AA.put Tr.put;have:∀(p:Hl)(t:Tr AJ),(t.Gl (some x) p).Gl (some y) p=t.Gl (some y) p:=by
  intro p;induction p with
  | e=>intro t;cases t<;>rfl
  | z p ih=>intro t;cases t with
   | leaf=>show Tr.node (((Tr.leaf).Gl (some x) p).Gl (some y) p) none .leaf=_;rw[ih];rfl
   | node l v r=>show Tr.node ((l.Gl (some x) p).Gl (some y) p) v r=_;rw[ih];rfl
  | o p ih=>intro t;cases t with
   | leaf=>show Tr.node .leaf none (((Tr.leaf).Gl (some x) p).Gl (some y) p)=_;rw[ih];rfl
   | node l v r=>show Tr.node l v ((r.Gl (some x) p).Gl (some y) p)=_;rw[ih];rfl
 simp[this]
def Be(cs:AL)(i:Nat)(l:AL):AL:=cs.take i++(l++cs.drop (i+l.length))
theorem HI(cs:AL)(i:Nat)(v:Value)(l:AL)(h:i+(l.length+1)<=cs.length):Be cs i (v::l)=Be (cs.set i v) (i+1) l:=by
 induction i generalizing cs with
 | zero=>
  cases cs with
  | nil=>simp at h
  | cons x cs=>simp[Be,Nat.add_comm 1]
 | succ i ih=>
  cases cs with
  | nil=>simp at h
  | cons x cs=>
   have:=ih cs (by simp at h;omega);simp only[Be,List.set_cons_succ,ACz,AAz]at this ⊢;rw[show i+1+(l.length+1)=(i+(l.length+1))+1 by omega,show i+1+1+l.length=(i+1+l.length)+1 by omega,ACy,ACy];exact congrArg (List.cons x) this
theorem Ja(cs:AL)(i:Nat):Be cs i []=cs:=by simp[Be]
def Bc:Value->Bool
 | .agg _ | .tuple _ | .chan _=>false
 | _=>true
theorem Jh{v v':Value}(h:AF Z v v')(ho:Bc v=true):v'.oneCell'=true:=by
 cases h<;>first | rfl | (simp[Bc,Bo]at ho)
theorem AH.T8(P:Program){b e:Nat}{T:BQ}(hm:Z b=some T):∀(l l':AL)(H:AA)(W:World)(cs:AL)(i k:Nat),AH base W0 Z H W->H.get b=some (.cells cs e false)->Af Z l l'->l.all Bc=true->
 i+k+l.length<=cs.length->∃W',(storeCells ⟨T.c,T.d+i,none⟩ l' k).run P W= .ok () W'/\AH base W0 Z (H.put b (.cells (Be cs (i+k) l) e false)) W'/\Ah Z H Z (H.put b (.cells (Be cs (i+k) l) e false)):=by
 intro l;induction l with
 | nil=>
  intro l' H W cs i k h hb hl _ _;cases hl
  refine⟨W,rfl,?_⟩;rw[Ja];obtain⟨o',ho',hr⟩:=h.obj b _ hb T hm;exact h.update hb rfl hm rfl (fun _ _=>rfl) ho' hr rfl rfl
 | cons v l ih=>
  intro l' H W cs i k h hb hl hok hlen;cases hl with
  | @cons _ v' _ l' hv ht=>
   simp only[ABN,AAQ]at hok;simp only[AAz]at hlen;have hadd:(⟨T.c,T.d+i,none⟩:Addr).add k=⟨T.c,T.d+(i+k),none⟩:=by unfold Addr.add;split<;>simp_all;omega
   have hget:cs[i+k]? = some (cs[i+k]'(by omega)):=AAU (by omega);obtain⟨u,hu,_⟩:=h.cell hb hm hget;have hfz:=h.frozen hb hm hget;have hst:(store ((⟨T.c,T.d+i,none⟩:Addr).add k) v').run P W= .ok () (W.setCell ⟨T.c,T.d+(i+k),none⟩ v'):=by
    rw[hadd,run_store P W _ v' _ (Jh hv hok.1)];simp[hu,hfz]
   obtain⟨h1,e1⟩:=h.tz (v:=v) hb hm (i:=i+k) (by omega) hv;obtain⟨W',hw,h2,e2⟩:=ih l' _ _ (cs.set (i+k) v) i (k+1) h1 (by rw[AA.AQ,AAZ rfl]) ht hok.2 (by simp;omega);refine⟨W',?_,?_,?_⟩
   .simp only[storeCells,Sem.run_bind,hst,Result.andThen_ok,hw]
   .rw[Zp]at h2;rw[HI _ _ _ _ (by omega)];exact h2
   .have:=e1.trans e2;rw[Zp]at this;rw[HI _ _ _ _ (by omega)];exact this
end
abbrev H5:=Value->AA->Prop
def NN{α:Type}(P:Program)(s:Sem α):Option α:=
 Sem.rec (motive:=fun _=>Option α) (fun a=>some a) (fun _ _ _ _=>none) (fun _ _ _ _ _=>none) (fun _ _ _=>none) (fun _ _ _=>none) (fun _ _ _ _=>none) (fun _ _ _=>none)
  (fun _ _ _=>none) (fun _ _ _ _=>none) (fun _ _ _=>none) (fun _ _ _=>none) (fun _ ih=>ih P) (fun _ _ ih=>ih) (fun _=>none) s
theorem Ok{α:Type}{P:Program}{s:Sem α}{a:α}(h:NN P s=some a)(w:World):s.run P w= .ok a w:=by
 induction s with
 | pure b=>simp[NN]at h;subst h;rfl
 | program k ih=>exact ih P h
 | mark m k ih=>exact ih h
 | _=>simp[NN]at h
def C4:Nat->Value->Bool
 | 0,_=>false
 | n+1,v=>match v with
  | .bool _ | .int _ _ | .float _ _ | .string _ | .pointer none | .slice none _ _ | .map none | .nilFunc | .nilIface=>true
  | .iface _ v=>C4 n v
  | .agg cs | .tuple cs=>cs.toList.all (C4 n)
  | _=>false
theorem kq{Z:AW}:∀(n:Nat)(v v':Value),C4 n v=true->AF Z v v'->v'=v:=by
 intro n;induction n with
 | zero=>intro v v' h;cases h
 | succ n ih=>
  have hl:∀(l l':AL),l.all (C4 n)=true->Af Z l l'->l'=l:=by
   intro l;induction l with
   | nil=>intro l' _ h;cases h;rfl
   | cons a l ihl=>
    intro l' h hr;cases hr with
    | cons hv ht=>
     simp only[ABN,AAQ]at h;rw[ih _ _ h.1 hv,ihl _ h.2 ht]
  intro v v' h hr;cases hr with
  | Bo=>simp[C4,Bo]at h
  | iface t a a' hv=>simp only[C4]at h;rw[ih _ _ h hv]
  | agg xs xs' hx ex=>
   obtain⟨ys,he,hl'⟩:=AF.Cr.1 (.agg xs xs' hx ex);cases he
   simp only[C4]at h;have:=hl _ _ h hl';rw[Array.toList_inj.1 this]
  | tuple xs xs' hx ex=>
   obtain⟨ys,he,hl'⟩:=AF.CM.1 (.tuple xs xs' hx ex);cases he
   simp only[C4]at h;have:=hl _ _ h hl';rw[Array.toList_inj.1 this]
  | bool | int | float | string | IX | Cc | IQ | nilFunc | nilIface=>rfl
  | ptr | slice | HV | Hn | Bd | Dz | C9 | GI | map | func=>simp[C4]at h
theorem Xz(Z:AW):∀(n:Nat)(v:Value),C4 n v=true->AF Z v v:=by
 intro n;induction n with
 | zero=>intro v h;cases h
 | succ n ih=>
  have hl:∀(l:AL),l.all (C4 n)=true->Af Z l l:=by
   intro l;induction l with
   | nil=>intro _;exact .nil
   | cons a l ihl=>
    intro h;simp only[ABN,AAQ]at h;exact .cons (ih _ h.1) (ihl h.2)
  intro v h;unfold C4 at h;split at h
  .exact .bool _
  .exact .int _ _
  .exact .float _ _
  .exact .string _
  .exact .IX
  .exact .Cc _ _
  .exact .IQ
  .exact .nilFunc
  .exact .nilIface
  .exact .iface _ _ _ (ih _ h)
  .exact AF.Cr.2 ⟨_,rfl,hl _ h⟩
  .exact AF.CM.2 ⟨_,rfl,hl _ h⟩
  .cases h
def flat(v:Value):Bool:=C4 8 v
theorem LN{Z:AW}{v v':Value}(h:flat v=true)(hr:AF Z v v'):v'=v:=kq 8 v v' h hr
theorem D4{Z:AW}{v:Value}(h:flat v=true):AF Z v v:=Xz Z 8 v h
def JO(x:Value)(y:Nat):Option Nat:=
 match x with
 | .int _ (.ofNat k)=>bif Nat.ble k y then some k else none
 | _=>none
def FD(len cap:Nat)(low high max:DJ):Option (Nat × Nat × Nat):=
 (match max with | some v=>JO v cap | none=>some cap).bind fun m=>
 (match high,max with | some v,_=>JO v m | none,none=>some len | none,some _=>none).bind fun h=>
 (match low with | some v=>JO v h | none=>some 0).bind fun l=>some (l,h,m)
def KE(place:Nat->Option (Nat × Nat))(cells:AL):List (Nat × Value)->Option (AL)
 | []=>some cells
 | (i,v)::rest=>
  match place i with
  | none=>none
  | some (off,size)=>
   let l:=v.cells.toList
   bif Nat.beq l.length size&&Nat.ble (off+l.length) cells.length then KE place (Be cells off l) rest else none
def Is(P:Program)(t:TypeId):Option (AL):=
 match P.info? t with
 | some i=>match i.zero with
  | some z=>bif flat z then some z.cells.toList else none
  | none=>none
 | none=>none
def D6(P:Program)(t:TypeId):Option Nat:=(P.info? t).map (·.size)
def NH(P:Program)(fields:Array Field):Option (List (Nat × Nat)):=
 fields.toList.mapM (fun f=>(P.info? f.type).map fun i=>(f.offset,i.size))
def YW(P:Program)(t:TypeId)(parts:List (Nat × Value)):DJ:=
 match Is P t,P.underlying t with
 | some z,some (.array _ e)=>match D6 P e with
  | some n=>(KE (fun i=>some (i * n,n)) z parts).map fun l=> .agg ⟨l⟩
  | none=>none
 | some z,some (.struct fields)=>match NH P fields with
  | some pl=>(KE (fun i=>pl[i]?) z parts).map fun l=> .agg ⟨l⟩
  | none=>none
 | _,_=>none
def Ds(z:AL)(n:Nat):AL:=(List.range n).map fun i=>z.getD (i % z.length) default
def HG(P:Program)(t:TypeId)(len:Nat)(parts:List (Nat × Value))(H:AA):Option (Value × AA):=
 match P.underlying t with
 | some (.slice e)=>match D6 P e,Is P e with
  | some n,some z=>
   bif Nat.beq (len * n) 0 then
    match parts with
    | []=>some (.slice (some ⟨H.next,0,none⟩) len len,H.alloc (.cells [] n false))
    | _=>none
   else bif Nat.ble (len * n) 16777216 then
    (KE (fun i=>some (i * n,n)) (Ds z (len * n)) parts).map fun l=>(.slice (some ⟨H.next,0,none⟩) len len,H.alloc (.cells l n false))
   else none
  | _,_=>none
 | _=>none
def Ej:TypeDesc->Bool
 | .struct _ | .array _ _=>true
 | _=>false
def NB(P:Program)(t:TypeId)(a:Value)(H:AA):DJ:=
 match a with
 | .pointer (some ⟨b,off,none⟩)=>
  match H.get b with
  | some (.cells cs _ _)=>
   match P.underlying t,D6 P t with
   | some d,some n=>
    bif Ej d then
     let l:=(cs.drop off).take n
     bif Nat.beq l.length n then some (.agg ⟨l⟩)else none
    else cs[off]?
   | _,_=>none
  | _=>none
 | _=>none
def Rp(P:Program)(t:TypeId)(a x:Value)(H:AA):Option AA:=
 match a with
 | .pointer (some ⟨b,off,none⟩)=>
  match H.get b with
  | some (.cells cs e false)=>
   match D6 P t with
   | some n=>
    let l:=x.cells.toList
    bif Nat.beq l.length n&&l.all Bc&&Nat.ble (off+l.length) cs.length then some (H.put b (.cells (Be cs off l) e false))else none
   | _=>none
  | _=>none
 | _=>none
section
variable {P:Program}{base:Env}{W0:World}{Z:AW}{H:AA}{W:World}
theorem NP{t:TypeId}{n:Nat}(h:D6 P t=some n):∃i,P.info? t=some i/\i.size=n:=by
 unfold D6 at h;cases hi:P.info? t with
 | none=>simp[hi]at h
 | some i=>simp[hi]at h;exact⟨i,rfl,h⟩
theorem BZ{t:TypeId}{n:Nat}(h:D6 P t=some n)(w:World):(sizeOf t).run P w= .ok n w:=by
 obtain⟨i,hi,rfl⟩:=NP h;simp[sizeOf,typeInfo,hi]
theorem GU{t:TypeId}{l:AL}(h:Is P t=some l):∃i z,P.info? t=some i/\i.zero=some z/\flat z=true/\z.cells.toList=l:=by
 unfold Is at h;cases hi:P.info? t with
 | none=>simp[hi]at h
 | some i=>
  cases hz:i.zero with
  | none=>simp[hi,hz]at h
  | some z=>
   simp only[hi,hz]at h;cases hf:flat z<;>simp[hf]at h
   exact⟨i,z,rfl,hz,hf,h⟩
theorem IF{t:TypeId}{l:AL}(h:Is P t=some l)(w:World):∃z,(zeroValue t).run P w= .ok z w/\flat z=true/\z.cells.toList=l:=by
 obtain⟨i,z,hi,hz,hf,hl⟩:=GU h;exact⟨z,by simp[zeroValue,typeInfo,hi,hz],hf,hl⟩
theorem JA{v v':Value}(h:AF Z v v')(hok:∀c,v≠ .chan c):Af Z v.cells.toList v'.cells.toList:=by
 cases h with
 | Bo v=>exact absurd rfl (hok _)
 | agg xs xs' hx ex=>
  obtain⟨ys,he,hl⟩:=AF.Cr.1 (.agg xs xs' hx ex);cases he;exact hl
 | bool | int | float | string | IX | Cc | IQ | nilFunc | nilIface=>first | exact .cons (.bool _) .nil | exact .cons (.int _ _) .nil | exact .cons (.float _ _) .nil | exact .cons (.string _) .nil | exact .cons .IX .nil | exact .cons (.Cc _ _) .nil | exact .cons .IQ .nil | exact .cons .nilFunc .nil | exact .cons .nilIface .nil
 | ptr b o T h=>exact .cons (.ptr b o T h) .nil
 | slice b o l k k' o' T h hc ho=>exact .cons (.slice b o l k k' o' T h hc ho) .nil
 | HV b o i T h ho=>exact .cons (.HV b o i T h ho) .nil
 | Hn b o j T M h hm ho=>exact .cons (.Hn b o j T M h hm ho) .nil
 | Bd b i l k k' o' T h hc ho hr=>exact .cons (.Bd b i l k k' o' T h hc ho hr) .nil
 | Dz b i k T a h hc=>exact .cons (.Dz b i k T a h hc) .nil
 | C9 b j l k k' o' T M h hm hc ho hr=>exact .cons (.C9 b j l k k' o' T M h hm hc ho hr) .nil
 | GI b j k T a h hc=>exact .cons (.GI b j k T a h hc) .nil
 | map b T h=>exact .cons (.map b T h) .nil
 | func fn fn' xs xs' ys ys' hf hx ex hy ey=>exact .cons (.func fn fn' xs xs' ys ys' hf hx ex hy ey) .nil
 | iface t v v' h=>exact .cons (.iface t v v' h) .nil
 | tuple xs xs' hx ex=>exact .cons (.tuple xs xs' hx ex) .nil
theorem IP{z:Value}(h:flat z=true):Af Z z.cells.toList z.cells.toList:=
 JA (D4 h) (by rintro c rfl;simp[flat,C4]at h)
theorem Jc{t:TypeId}{d:TypeDesc}(h:P.underlying t=some d)(w:World):(isAgg t).run P w= .ok (Ej d) w:=by
 cases d<;>simp[isAgg,run_underlying h,Ej]
theorem Pr(h:AH base W0 Z H W){t:TypeId}{a a' v:Value}(ha:AF Z a a')(hi:NB P t a H=some v):
 ∃v',(Instr.loadAt t a').run P W= .ok v' W/\AF Z v v':=by
 unfold NB at hi;split at hi
 .rename_i b off;cases ha with
  | ptr _ _ T hm=>
   split at hi
   .rename_i cs e ro hb;split at hi
    .rename_i dd n hd hn;simp only[Instr.loadAt,Instr.sureAddr,Sem.run_bind,Sem.run_pure,Result.andThen_ok,loadVar,Jc hd];cases hagg:Ej dd
     .simp only[hagg,AAR]at hi;obtain⟨v',h1,h2⟩:=h.cell hb hm hi;exact⟨v',by simp[h1],h2⟩
     .simp only[hagg,AAO]at hi;cases hl:Nat.beq ((cs.drop off).take n).length n
      .rw[hl]at hi;cases hi
      .simp only[hl,AAO,AAN]at hi;subst hi;have hlen:=AAP hl;obtain⟨l',r1,r2,_⟩:=h.row hb hm (off:=off) (l:=(cs.drop off).take n) (by rw[hlen]) P;rw[hlen]at r2;refine⟨.agg l'.toArray,?_,AF.Cr.2 ⟨_,rfl,by simpa using r1⟩⟩;simp[BZ hn,r2]
    .cases hi
   .cases hi
 .cases hi
theorem Ss(h:AH base W0 Z H W){t:TypeId}{a a' x x':Value}{H':AA}(ha:AF Z a a')(hx:AF Z x x')(hi:Rp P t a x H=some H'):
 ∃W',(Instr.storeAt t a' x').run P W= .ok () W'/\AH base W0 Z H' W'/\Ah Z H Z H':=by
 unfold Rp at hi;split at hi
 .rename_i b off;cases ha with
  | ptr _ _ T hm=>
   split at hi
   .rename_i cs e hb;split at hi
    .rename_i n hn;cases hc:(Nat.beq x.cells.toList.length n&&x.cells.toList.all Bc&&Nat.ble (off+x.cells.toList.length) cs.length)
     .simp only[hc,AAR]at hi;cases hi
     .simp only[hc,AAO,AAN]at hi;subst hi;simp only[AAQ]at hc;obtain⟨⟨h1,h2⟩,h3⟩:=hc;have hlen:=AAP h1;have hle:=VC h3;have hr:=JA hx (by
       rintro k rfl;simp[Value.cells,Bc]at h2)
      obtain⟨W',r1,r2,r3⟩:=AH.T8 P hm _ _ H W cs off 0 h hb hr h2 (by simpa using hle);refine⟨W',?_,r2,r3⟩;have hsz:x'.cells.size=n:=by
       have:=hr.length;rw[hlen]at this;simpa using this.symm
      simp only[Instr.storeAt,Instr.sureAddr,Sem.run_bind,Sem.run_pure,Result.andThen_ok,storeVar,BZ hn];simp only[hsz,ne_eq,not_true_eq_false,ACv];exact r1
    .cases hi
   .cases hi
 .cases hi
inductive ZD(Z:AW):List (Nat × Value)->List (Nat × Value)->Prop where
 | nil:ZD Z [] []
 | cons {i:Nat} {v v':Value} {l l':List (Nat × Value)} (h:AF Z v v') (hc:∀c,v≠ .chan c) (t:ZD Z l l'):ZD Z ((i,v)::l) ((i,v')::l')
theorem ca(vs:AL):∀(off k:Nat)(cells:BE),off+k+vs.length<=cells.size->
 ((vs.zipIdx k).foldl (fun cs (x:Value × Nat)=>cs.setIfInBounds (off+x.2) x.1) cells).toList=Be cells.toList (off+k) vs:=by
 induction vs with
 | nil=>intro off k cells _;simp[Ja]
 | cons v vs ih=>
  intro off k cells h;simp only[AAz]at h;simp only[List.zipIdx_cons,ACw];rw[ih off (k+1) _ (by simp;omega),HI _ _ _ _ (by simpa using h)];simp[Array.toList_setIfInBounds,Nat.add_assoc]
theorem MR{place:Nat->Option (Nat × Nat)}:∀(parts parts':List (Nat × Value))(cells:AL)(cells':BE)(r:AL),ZD Z parts parts'->Af Z cells cells'.toList->KE place cells parts=some r->
 ∃r',Instr.fill place cells' parts'=some r'/\Af Z r r'.toList:=by
 intro parts;induction parts with
 | nil=>
  intro parts' cells cells' r hp hc hi;cases hp
  simp[KE]at hi;subst hi
  exact⟨cells',rfl,hc⟩
 | cons p parts ih=>
  intro parts' cells cells' r hp hc hi;cases hp with
  | @cons i v v' _ l' hv hch ht=>
   simp only[KE]at hi;cases hpl:place i with
   | none=>simp[hpl]at hi
   | some os=>
    obtain⟨off,size⟩:=os;simp only[hpl]at hi;cases hcnd:(Nat.beq v.cells.toList.length size&&Nat.ble (off+v.cells.toList.length) cells.length)
    .simp only[hcnd,AAR]at hi;cases hi
    .simp only[hcnd,AAO]at hi;simp only[AAQ]at hcnd;have h1:=AAP hcnd.1;have h2:=VC hcnd.2;have hr:=JA hv hch;have hl1:v'.cells.size=size:=by have:=hr.length;rw[h1]at this;simpa using this.symm
     have hl2:off+v'.cells.size<=cells'.size:=by have:=hc.length;rw[h1]at h2;simp at this;omega
     have hsp:Af Z (Be cells off v.cells.toList) ((v'.cells.toList.zipIdx 0).foldl (fun cs (x:Value × Nat)=>cs.setIfInBounds (off+x.2) x.1) cells').toList:=by
      rw[ca _ _ _ _ (by simpa using hl2)];unfold Be;rw[hr.length];exact(hc.take _).append (hr.append (hc.drop _))
     obtain⟨r',e1,e2⟩:=ih l' _ _ r ht hsp hi;refine⟨r',?_,e2⟩;simp only[Instr.fill,hpl];have hno:¬(v'.cells.size≠size||off+v'.cells.size > cells'.size)=true:=by
      simp[hl1];omega
     simp only[hno];rw[<-e1]
     congr 1
     rw[<-Array.foldl_toList];simp[Array.toList_zipIdx]
theorem bo{t:TypeId}{parts parts':List (Nat × Value)}{v:Value}(hp:ZD Z parts parts')(hi:YW P t parts=some v)(ps:Array (Nat × Value))(hps:ps.toList=parts'):
 ∃v',(Instr.build t ps).run P W= .ok v' W/\AF Z v v':=by
 unfold YW at hi;split at hi
 .rename_i z _ e hz hu;obtain⟨i,zz,h1,h2,h3,h4⟩:=GU hz;split at hi
  .rename_i n hn;obtain⟨ie,h5,rfl⟩:=NP hn;cases hf:KE (fun i=>some (i * ie.size,ie.size)) z parts with
   | none=>simp[hf]at hi
   | some r=>
    simp only[hf,AA8,AAN]at hi;subst hi;obtain⟨r',e1,e2⟩:=MR parts parts' z zz.cells r hp (by rw[<-h4];exact IP h3) hf;refine⟨.agg r',run_build W t ps r' ?_,AF.Cr.2 ⟨_,rfl,e2⟩⟩;rw[hps];simp[Program.built,h1,hu,h2,h5,e1]
  .cases hi
 .rename_i z fields hz hu;obtain⟨i,zz,h1,h2,h3,h4⟩:=GU hz;split at hi
  .rename_i pl hpl;cases hf:KE (fun i=>pl[i]?) z parts with
   | none=>simp[hf]at hi
   | some r=>
    simp only[hf,AA8,AAN]at hi;subst hi;obtain⟨r',e1,e2⟩:=MR parts parts' z zz.cells r hp (by rw[<-h4];exact IP h3) hf;refine⟨.agg r',run_build W t ps r' ?_,AF.Cr.2 ⟨_,rfl,e2⟩⟩;rw[hps];unfold NH at hpl;simp[Program.built,h1,hu,h2,hpl,e1]
  .cases hi
 .cases hi
theorem JK{z:Value}{l:AL}(hf:flat z=true)(hl:z.cells.toList=l)(n:Nat):
 Af Z (Ds l n) (((Array.range n).map (z.cells[· % z.cells.size]!)).toList):=by
 subst hl;have hz:Af Z z.cells.toList z.cells.toList:=IP hf;have hd:AF Z (default:Value) default:= .bool _;simp only[Ds,ABb,Array.toList_range];refine Af.map _ _ _ fun i _=>?_
 have:z.cells[i % z.cells.size]! = z.cells.toList.getD (i % z.cells.toList.length) default:=by
  rw[getElem!_def,List.getD,AAx];simp only[AAy];cases z.cells[i % z.cells.size]?<;>rfl
 rw[this];rcases AAt (i % z.cells.toList.length) z.cells.toList.length with hlt | hge
 .simp only[List.getD,AAU hlt,ABZ];exact hz.idx _ hlt hlt
 .simp only[List.getD,AAq hge,Option.getD_none];exact hd
theorem Es{l:AL}{c:BE}(k e:Nat)(t:TypeId)(h:Af Z l c.toList):Cb Z ⟨k,0,c.size,e⟩ (.cells l e false) (.cells c t):=by
 refine .cells ⟨k,0,c.size,e⟩ l e false c t 0 0 rfl ?_ (by simp) (fun _ i _=>by omega);have:=h.length;rw[AA5,AAc (by omega)];exact h
theorem Mn(T:BQ)(b:Nat)(hd:T.d=0):AF (Z.ext b T) (.pointer (some ⟨b,0,none⟩)) (.pointer (some ⟨T.c,0,none⟩)):=by
 have:=AF.ptr (Z:=Z.ext b T) b 0 T (AW.AY _ _ _);rw[hd]at this;exact this
theorem E5(T:BQ)(b:Nat)(hd:T.d=0)(n c c':Nat)(hc:Jn T 0 n c c'):AF (Z.ext b T) (.slice (some ⟨b,0,none⟩) n c) (.slice (some ⟨T.c,0,none⟩) n c'):=
 .slice b 0 n c c' 0 T (AW.AY _ _ _) hc (.inl (by omega))
theorem QY(h:AH base W0 Z H W){t:TypeId}{len:Nat}{parts parts':List (Nat × Value)}{v:Value}{H':AA}(hp:ZD Z parts parts')(hi:HG P t len parts H=some (v,H'))(ps:Array (Nat × Value))(hps:ps.toList=parts')(hcap:len < AT):
 ∃μ' v' W',(Instr.buildSlice t len ps).run P W= .ok v' W'/\AH base W0 μ' H' W'/\AF μ' v v'/\Ah Z H μ' H':=by
 unfold HG at hi;split at hi
 .rename_i e hu;split at hi
  .rename_i n z hn hz;obtain⟨ie,h5,rfl⟩:=NP hn;obtain⟨i,zz,h1,h2,h3,h4⟩:=GU hz;rw[h5]at h1;cases h1
   cases hz0:Nat.beq (len * ie.size) 0
   case true=>
    simp only[hz0,AAO]at hi;split at hi
    .cases hi
     cases hp
     have hz0:=AAP hz0;have hrun:(Instr.buildSlice t len ps).run P W= .ok (.slice (some ⟨W.heap.size,0,none⟩) len len) (W.alloc (.cells #[] e)):=by
      have hr0:Array.range 0=#[]:=rfl;simp[Instr.buildSlice,run_underlying hu,sizeOf,typeInfo,h5,hz0,newRow,hps,hr0,Instr.fill]
     obtain⟨g1,g2⟩:=h.alloc rfl (Es (l:=[]) (c:=#[]) W.heap.size ie.size e .nil);exact⟨_,_,_,hrun,g1,E5 _ _ rfl len len len (.inl ⟨hcap,rfl⟩),g2⟩
    .cases hi
   simp only[hz0,AAR]at hi;cases hcnd:(Nat.ble (len * ie.size) 16777216)
   .simp only[hcnd,AAR]at hi;cases hi
   .simp only[hcnd,AAO]at hi;have c1:=VC hcnd;have c2:¬len * ie.size=0:=by intro e;rw[e]at hz0;exact absurd hz0 (by decide)
    cases hf:KE (fun i=>some (i * ie.size,ie.size)) (Ds z (len * ie.size)) parts with
    | none=>simp[hf]at hi
    | some r=>
     simp only[hf,AA8,AAN,AAm]at hi;obtain⟨rfl,rfl⟩:=hi;obtain⟨r',e1,e2⟩:=MR parts parts' _ _ r hp (JK h3 h4 (len * ie.size)) hf;have hrun:(Instr.buildSlice t len ps).run P W= .ok (.slice (some ⟨W.heap.size,0,none⟩) len len) (W.alloc (.cells r' e)):=by
      rw[<-hps]at e1;have hsmall:¬len * ie.size > 2 ^ 24:=by omega
      simp[Instr.buildSlice,run_underlying hu,sizeOf,typeInfo,zeroValue,h5,h2,hsmall,c2,e1,newRow]
     obtain⟨g1,g2⟩:=h.alloc rfl (Es W.heap.size ie.size e e2);exact⟨_,_,_,hrun,g1,E5 _ _ rfl len len len (.inl ⟨hcap,rfl⟩),g2⟩
  .cases hi
 .cases hi
end
section
variable {P:Program}{base:Env}{W0:World}{Z:AW}{H:AA}{W:World}
inductive Fx(Z:AW):DJ->DJ->Prop where
 | none:Fx Z none none
 | some {v v':Value} (h:AF Z v v'):Fx Z (some v) (some v')
theorem Lx{x:Value}{y k:Nat}(h:JO x y=some k):∃kd,x= .int kd (Int.ofNat k)/\k<=y:=by
 unfold JO at h;split at h
 .rename_i kd n;cases hb:Nat.ble n y<;>simp[hb]at h
  subst h;exact⟨kd,rfl,VC hb⟩
 .cases h
theorem C1{x x':Value}{y y' k:Nat}(hx:AF Z x x')(h:JO x y=some k)(hy:y<=y')(code:BoundsCode):(Instr.sliceBound x' y' code).run P W= .ok k W:=by
 obtain⟨kd,rfl,hk⟩:=Lx h;cases hx
 have:(0:Int)<=Int.ofNat k/\Int.ofNat k<=(y':Int):=⟨by simp,by have:=Int.ofNat_le.2 (ABs hk hy);simpa using this⟩;simp only[Instr.sliceBound,asIntOf,Sem.run_bind,Sem.run_pure,Result.andThen_ok,AAZ this];simp
theorem IU{len cap cap' l h m:Nat}{lo lo' hi hi' mx mx':DJ}(isS:Bool)(hlo:Fx Z lo lo')(hhi:Fx Z hi hi')(hmx:Fx Z mx mx')(hb:FD len cap lo hi mx=some (l,h,m))(hc:cap<=cap'):
 ∃m',(Instr.sliceBounds isS len cap' lo' hi' mx').run P W= .ok (l,h,m') W/\l<=h/\((mx.isSome=true/\m'=m/\m<=cap)\/(mx=none/\m'=cap'/\m=cap))/\(h<=m\/(hi=none/\h=len)):=by
 unfold FD at hb;cases hmx with
 | none=>
  simp only[AAv]at hb;cases hhi with
  | none=>
   simp only[AAv]at hb;cases hlo with
   | none=>
    simp only[AAv,AAN,AAm]at hb;obtain⟨rfl,rfl,rfl⟩:=hb;exact⟨cap',by simp[Instr.sliceBounds],AA4 _,.inr ⟨rfl,rfl,rfl⟩,.inr ⟨rfl,rfl⟩⟩
   | some hv=>
    rename_i v v';cases hbd:JO v len with
    | none=>simp[hbd]at hb
    | some k=>
     simp only[hbd,AAv,AAN,AAm]at hb;obtain⟨rfl,rfl,rfl⟩:=hb;have:=Lx hbd;refine⟨cap',?_,by obtain⟨_,_,h⟩:=this;exact h,.inr ⟨rfl,rfl,rfl⟩,.inr ⟨rfl,rfl⟩⟩;simp[Instr.sliceBounds,C1 hv hbd (Nat.le_refl _)]
  | some hw=>
   rename_i u u';simp only at hb;cases hbu:JO u cap with
   | none=>simp[hbu]at hb
   | some k1=>
    have hk1:k1<=cap:=by obtain⟨_,_,h⟩:=Lx hbu;exact h
    simp only[hbu,AAv]at hb;cases hlo with
    | none=>
     simp only[AAv,AAN,AAm]at hb;obtain⟨rfl,rfl,rfl⟩:=hb;refine⟨cap',?_,AA4 _,.inr ⟨rfl,rfl,rfl⟩,.inl hk1⟩;simp[Instr.sliceBounds,C1 hw hbu hc]
    | some hv=>
     rename_i v v';cases hbd:JO v k1 with
     | none=>simp[hbd]at hb
     | some k=>
      simp only[hbd,AAv,AAN,AAm]at hb;obtain⟨rfl,rfl,rfl⟩:=hb;have:=Lx hbd;refine⟨cap',?_,by obtain⟨_,_,h⟩:=this;exact h,.inr ⟨rfl,rfl,rfl⟩,.inl hk1⟩;simp[Instr.sliceBounds,C1 hw hbu hc,C1 hv hbd (Nat.le_refl _)]
 | some hx=>
  rename_i x x';cases hbx:JO x cap with
  | none=>simp[hbx]at hb
  | some k2=>
   have hk2:k2<=cap:=by obtain⟨_,_,h⟩:=Lx hbx;exact h
   simp only[hbx,AAv]at hb;cases hhi with
   | none=>simp at hb
   | some hw=>
    rename_i u u';simp only at hb;cases hbu:JO u k2 with
    | none=>simp[hbu]at hb
    | some k1=>
     have hk1:k1<=k2:=by obtain⟨_,_,h⟩:=Lx hbu;exact h
     simp only[hbu,AAv]at hb;cases hlo with
     | none=>
      simp only[AAv,AAN,AAm]at hb;obtain⟨rfl,rfl,rfl⟩:=hb;refine⟨k2,?_,AA4 _,.inl ⟨rfl,rfl,hk2⟩,.inl hk1⟩;simp[Instr.sliceBounds,C1 hx hbx hc,C1 hw hbu (Nat.le_refl _)]
     | some hv=>
      rename_i v v';cases hbd:JO v k1 with
      | none=>simp[hbd]at hb
      | some k=>
       simp only[hbd,AAv,AAN,AAm]at hb;obtain⟨rfl,rfl,rfl⟩:=hb;have:=Lx hbd;refine⟨k2,?_,by obtain⟨_,_,h⟩:=this;exact h,.inl ⟨rfl,rfl,hk2⟩,.inl hk1⟩;simp[Instr.sliceBounds,C1 hx hbx hc,C1 hw hbu (Nat.le_refl _),C1 hv hbd (Nat.le_refl _)]
def Ie(sz e b off len cap:Nat)(low high max:DJ):DJ:=
 bif Nat.blt cap AT then
  match FD len cap low high max with
  | some (l,h,m)=>some (.slice (some ⟨b,bif Nat.beq m l then off else off+l * sz,none⟩) (h - l) (m - l))
  | none=>none
 else
  match max,FD len (cap - AT) low high max with
  | some _,some (l,h,m)=>bif Nat.blt m AT then some (.slice (some ⟨b,bif Nat.beq m l then off else off+l * sz,none⟩) (h - l) (m - l))else none
  | none,some (l,h,_)=>bif Nat.ble l (cap - AT)&&Nat.beq sz e then some (.slice (some ⟨b,off+l * sz,none⟩) (h - l) (AT+(cap - AT - l)))else none
  | _,none=>none
def elemAt(H:AA)(b:Nat):Nat:=
 match H.get b with
 | some (.cells _ e _)=>e
 | _=>0
def Jd(P:Program)(t:TypeId)(x:Value)(low high max:DJ)(H:AA):DJ:=
 match P.underlying t,x with
 | some (.array n e),.pointer (some ⟨b,off,none⟩)=>
  match D6 P e with
  | some sz=>bif Nat.blt n AT then Ie sz 0 b off n n low high max else none
  | none=>none
 | some .string,.string s=>
  match max,FD s.size s.size low high none with
  | none,some (l,h,_)=>some (.string (s.extract l h))
  | _,_=>none
 | some (.slice e),.slice none len cap=>
  match D6 P e,FD len cap low high max with
  | some _,some (l,h,m)=>some (.slice none (h - l) (m - l))
  | _,_=>none
 | some (.slice e),.slice (some ⟨b,off,none⟩) len cap=>
  match D6 P e with
  | some sz=>bif Nat.blt cap AT then Ie sz 0 b off len cap low high max else
   match H.get b with
   | some (.cells _ e _)=>Ie sz e b off len cap low high max
   | _=>none
  | none=>none
 | _,_=>none
theorem add_eq(c o n:Nat):(⟨c,o,none⟩:Addr).add n=⟨c,o+n,none⟩:=by
 unfold Addr.add;split<;>simp_all
theorem Ov{sz e b off o' len cap cap':Nat}{T:BQ}{lo lo' hi hi' mx mx':DJ}{v:Value}(hlo:Fx Z lo lo')(hhi:Fx Z hi hi')(hmx:Fx Z mx mx')(hm:Z b=some T)(hc:Jn T off len cap cap')(ho:o'=T.d+off\/(len=0/\cap'=0))(isS:Bool)(hte:cap < AT\/T.e=e)(hi0:Ie sz e b off len cap lo hi mx=some v):
 ∃l h m',(Instr.sliceBounds isS len cap' lo' hi' mx').run P W= .ok (l,h,m') W/\AF Z v (.slice (some (if m'=l then(⟨T.c,o',none⟩:Addr)else(⟨T.c,o',none⟩:Addr).add (l * sz))) (h - l) (m' - l)):=by
 unfold Ie at hi0;rcases hc with⟨hcx,rfl⟩ | ⟨hcu,hlb,hlen,hroom⟩
 .have:Nat.blt cap' AT=true:=AAS hcx;simp only[this,AAO]at hi0;cases hb:FD len cap' lo hi mx with
  | none=>simp[hb]at hi0
  | some x=>
   obtain⟨l,h,m⟩:=x;simp only[hb,AAN]at hi0;subst hi0;obtain⟨m',hrun,hlh,hmm,hhm⟩:=IU (P:=P) (W:=W) isS hlo hhi hmx hb (AAT _);have hm':m'=m:=by rcases hmm with⟨_,h,_⟩ | ⟨_,h1,h2⟩<;>omega
   have hmle:m<=cap':=by rcases hmm with⟨_,_,h⟩ | ⟨_,h1,h2⟩<;>omega
   subst hm';refine⟨l,h,m',hrun,?_⟩
   by_cases e:m'=l
   .have hbq:Nat.beq m' l=true:=by rw[e];exact AAu _
    simp only[hbq,AAO,AAZ e];refine .slice b off _ _ _ o' T hm (.inl ⟨by omega,rfl⟩) ?_;rcases ho with ho | ⟨h1,h2⟩
    .exact .inl ho
    .refine .inr ⟨?_,by omega⟩;rcases hhm with hh | ⟨_,hh⟩<;>omega
   .have hbq:Nat.beq m' l=false:=by
     cases hq:Nat.beq m' l
     .rfl
     .exact absurd (AAP hq) e
    simp only[hbq,AAR,AAW e,add_eq];refine .slice b _ _ _ _ _ T hm (.inl ⟨by omega,rfl⟩) ?_;rcases ho with ho | ⟨h1,h2⟩
    .exact .inl (by omega)
    .exfalso;rcases hhm with hh | ⟨_,hh⟩<;>omega
 .have:Nat.blt cap AT=false:=by
   cases hq:Nat.blt cap AT
   .rfl
   .have:cap < AT:=VC hq;omega
  simp only[this,AAR]at hi0;cases hb:FD len (cap - AT) lo hi mx with
  | none=>cases mx<;>simp[hb]at hi0
  | some x=>
   obtain⟨l,h,m⟩:=x;obtain⟨m',hrun,hlh,hmm,hhm⟩:=IU (P:=P) (W:=W) isS hlo hhi hmx hb hlb;refine⟨l,h,m',hrun,?_⟩;cases hmx with
   | none=>
    simp only[hb]at hi0;have hm':m'=cap'/\m=cap - AT:=by
     rcases hmm with⟨h,_⟩ | ⟨_,h1,h2⟩
     .cases h
     .exact⟨h1,h2⟩
    obtain⟨hm1,hm2⟩:=hm';subst hm1;subst hm2
    cases hle:(Nat.ble l (cap - AT)&&Nat.beq sz e)
    .simp[hle]at hi0
    .simp only[hle,AAO,AAN]at hi0;subst hi0;simp only[AAQ]at hle;have hll:=VC hle.1;have hse:=AAP hle.2;have hte':T.e=sz:=by rcases hte with hh | hh<;>omega
     have hroom':∀k,k<=m'->off+l * sz+(m' - l) * T.e<=T.r\/m' < l:=by
      intro k _;rcases AAt m' l with hh | hh
      .exact .inr hh
      .refine .inl ?_;rw[hte']at hroom ⊢;have:l * sz+(m' - l) * sz=m' * sz:=by rw[<-ABj];congr 1;omega
       omega
     have hhl:h<=m':=by rcases hhm with hh | ⟨_,hh⟩<;>omega
     by_cases e:m'=l
     .simp only[AAZ e];refine .slice b _ _ _ _ o' T hm (.inr ⟨by omega,by omega,by omega,by have:=hroom' 0 (by omega);omega,by omega⟩) (.inr ⟨by omega,by omega⟩)
     .simp only[AAW e,add_eq];refine .slice b _ _ _ _ _ T hm (.inr ⟨by omega,by omega,by omega,by have:=hroom' 0 (by omega);omega,by omega⟩) ?_;rcases ho with ho | ⟨h1,h2⟩
      .exact .inl (by omega)
      .exfalso;omega
   | some hx=>
    simp only[hb]at hi0;cases hlt:Nat.blt m AT
    .simp[hlt]at hi0
    simp only[hlt,AAO,AAN]at hi0;subst hi0;have hltm:m < AT:=VC hlt;have hm':m'=m/\m<=cap - AT:=by
     rcases hmm with⟨_,h1,h2⟩ | ⟨h,_⟩
     .exact⟨h1,h2⟩
     .cases h
    obtain⟨hm1,hml⟩:=hm';subst hm1
    by_cases e:m'=l
    .have hbq:Nat.beq m' l=true:=by rw[e];exact AAu _
     simp only[hbq,AAO,AAZ e];refine .slice b off _ _ _ o' T hm (.inl ⟨by omega,rfl⟩) ?_;rcases ho with ho | ⟨h1,h2⟩
     .exact .inl ho
     .refine .inr ⟨?_,by omega⟩;rcases hhm with hh | ⟨_,hh⟩<;>omega
    .have hbq:Nat.beq m' l=false:=by
      cases hq:Nat.beq m' l
      .rfl
      .exact absurd (AAP hq) e
     simp only[hbq,AAR,AAW e,add_eq];refine .slice b _ _ _ _ _ T hm (.inl ⟨by omega,rfl⟩) ?_;rcases ho with ho | ⟨h1,h2⟩
     .exact .inl (by omega)
     .exfalso;rcases hhm with hh | ⟨_,hh⟩<;>omega
end
section
variable {P:Program}{base:Env}{W0:World}{Z:AW}{H:AA}{W:World}
theorem K1(h:AH base W0 Z H W){t:TypeId}{x x' v:Value}{lo lo' hi hi' mx mx':DJ}(hx:AF Z x x')(hlo:Fx Z lo lo')(hhi:Fx Z hi hi')(hmx:Fx Z mx mx')(hi0:Jd P t x lo hi mx H=some v):
 ∃v',(Instr.sliceAt t x' lo' hi' mx').run P W= .ok v' W/\AF Z v v':=by
 unfold Jd at hi0;split at hi0
 .rename_i n e b off hu;cases hx with
  | ptr _ _ T hm=>
   split at hi0
   .rename_i sz hsz;cases hn:Nat.blt n AT
    .simp[hn]at hi0
    .simp only[hn,AAO]at hi0;have hn':n < AT:=VC hn;obtain⟨l,hh,m',hrun,hv⟩:=Ov (P:=P) (W:=W) (o':=T.d+off) (cap':=n) hlo hhi hmx hm (.inl ⟨hn',rfl⟩) (.inl rfl) false (.inl hn') hi0;refine⟨_,?_,hv⟩;simp[Instr.sliceAt,run_underlying hu,Instr.sureAddr,hrun,BZ hsz]
   .cases hi0
 .rename_i s hu;cases hx
  split at hi0
  .rename_i l hh m hb;cases hi0
   cases hmx
   obtain⟨m',hrun,_,_,_⟩:=IU (P:=P) (W:=W) false hlo hhi .none hb (AAT _);refine⟨_,?_,.string _⟩;simp[Instr.sliceAt,Instr.slice,run_underlying hu,hrun]
  .cases hi0
 .rename_i e len cap hu;cases hx
  split at hi0
  .rename_i sz l hh m hsz hb;cases hi0
   obtain⟨m',hrun,_,hmm,_⟩:=IU (P:=P) (W:=W) true hlo hhi hmx hb (AAT _);have:m'=m:=by rcases hmm with⟨_,h,_⟩ | ⟨_,h1,h2⟩<;>omega
   subst this;refine⟨_,?_,.Cc _ _⟩;simp[Instr.sliceAt,Instr.slice,run_underlying hu,hrun,BZ hsz]
  .cases hi0
 .rename_i e b off len cap hu;cases hx with
  | slice _ _ _ _ cap' o' T hm hc ho=>
   split at hi0
   .rename_i sz hsz;have fin:∀e',(cap < AT\/T.e=e')->Ie sz e' b off len cap lo hi mx=some v->∃v',(Instr.sliceAt t (.slice (some ⟨T.c,o',none⟩) len cap') lo' hi' mx').run P W= .ok v' W/\AF Z v v':=by
     intro e' he' hs;obtain⟨l,hh,m',hrun,hv⟩:=Ov (P:=P) (W:=W) (o':=o') (cap':=cap') hlo hhi hmx hm hc ho true he' hs;refine⟨_,?_,hv⟩;simp only[Instr.sliceAt,Instr.slice,run_underlying hu,hrun,BZ hsz,Sem.run_bind,Result.andThen_ok,Sem.run_pure]
     by_cases e1:m'=l<;>simp[e1]
    cases hn:Nat.blt cap AT
    .simp only[hn,AAR]at hi0;split at hi0
     .rename_i cs ee ro hb;refine fin ee (.inr ?_) hi0;obtain⟨o1,_,hr⟩:=h.obj b _ hb T hm;cases hr with
      | cells _ _ _ a t lo hi he hc hr hf=>exact he.symm
     .cases hi0
    .simp only[hn,AAO]at hi0;exact fin 0 (.inl (VC hn)) hi0
   .cases hi0
 .cases hi0
def IC(P:Program)(t:TypeId)(len cap:Value)(H:AA):Option (Value × AA):=
 match P.underlying t,len,cap with
 | some (.slice e),.int _ (.ofNat l),.int _ (.ofNat c)=>
  match P.info? e,Is P e with
  | some i,some z=>
   bif Nat.ble l c&&Nat.ble (i.bytes * c) 281474976710656&&Nat.blt c 9223372036854775808 then
    some (.slice (some ⟨H.next,0,none⟩) l c,H.alloc (.cells (Ds z (c * i.size)) i.size false))
   else none
  | _,_=>none
 | _,_,_=>none
theorem wrap_i64{n:Nat}(h:n < 9223372036854775808):IntKind.i64.wrap (Int.ofNat n)=Int.ofNat n:=by
 have h1:(Int.ofNat n)=(n:Int):=rfl;rw[h1];simp only[IntKind.wrap];simp[IntKind.bits,IntKind.signed];omega
theorem VP:9223372036854775808 < AT:=by unfold AT;decide
theorem Fy{t e:TypeId}{l c:Nat}{k1 k2:IntKind}{i:TypeInfo}{z:AL}(hu:P.underlying t=some (.slice e))(hie:P.info? e=some i)(hz:Is P e=some z)(hcnd:(Nat.ble l c&&Nat.ble (i.bytes * c) 281474976710656&&Nat.blt c 9223372036854775808)=true):
 ∃o' T,(Instr.makeSlice t (.int k1 (Int.ofNat l)) (.int k2 (Int.ofNat c))).run P W= .ok (.slice (some ⟨W.heap.size,0,none⟩) l c) (W.alloc o')/\(T.c=W.heap.size/\T.d=0)/\Cb Z T (.cells (Ds z (c * i.size)) i.size false) o':=by
 obtain⟨i2,zz,h1,h2,h3,h4⟩:=GU hz;rw[hie]at h1;cases h1
 simp only[AAQ]at hcnd;have c1:=VC hcnd.1.1;have c2:=VC hcnd.1.2;have c3:c < 9223372036854775808:=VC hcnd.2;have hz2:=JK (Z:=Z) h3 h4 (c * i.size);have w1:=wrap_i64 (n:=l) (by omega);have w2:=wrap_i64 c3;refine⟨.cells ((Array.range (c * i.size)).map (zz.cells[· % zz.cells.size]!)) e,_,?_,⟨rfl,rfl⟩,Es W.heap.size i.size e hz2⟩;have d1:¬((Int.ofNat c < 0||↑i.bytes * Int.ofNat c > (2 ^ 48:Int))=true):=by
  have hb:(i.bytes:Int) * (c:Int)<=281474976710656:=by
   have:=Int.ofNat_le.2 c2;rw[Int.natCast_mul]at this;exact this
  have hp:(2 ^ 48:Int)=281474976710656:=rfl;intro hcon;rw[ABa]at hcon;rcases hcon with hcon | hcon
  .have:=ABU hcon;have e:Int.ofNat c=(c:Int):=rfl;omega
  .have hq:=ABU hcon;rw[hp]at hq;have hq':(i.bytes:Int) * (c:Int) > 281474976710656:=hq;omega
 have d2:¬(Int.ofNat l < 0):=by simp
 have d3:¬(Int.ofNat l > Int.ofNat c):=by simp;omega
 simp only[Instr.makeSlice,run_underlying hu,Sem.run_bind,Result.andThen_ok,asInt,asIntOf,Sem.run_pure,typeInfo,run_program,hie,w1,w2,sizeOf];have d4:((Int.ofNat c < 0||↑i.bytes * Int.ofNat c > (2 ^ 48:Int))||decide (Int.ofNat l < 0)||decide (Int.ofNat l > Int.ofNat c))=false:=by
  rw[ABk,ABk];exact⟨⟨Bool.eq_false_iff.2 d1,AAb d2⟩,AAb d3⟩
 simp only[d4]
 by_cases hn:c * i.size=0
 .have hr0:Array.range 0=#[]:=rfl;simp[hn,newRow,hie,hr0]
 .simp[hn,newRow,zeroValue,typeInfo,hie,h2]
theorem SG(h:AH base W0 Z H W){t:TypeId}{len len' cap cap' v:Value}{H':AA}(hl:AF Z len len')(hc:AF Z cap cap')(hi:IC P t len cap H=some (v,H')):
 ∃μ' v' W',(Instr.makeSlice t len' cap').run P W= .ok v' W'/\AH base W0 μ' H' W'/\AF μ' v v'/\Ah Z H μ' H':=by
 unfold IC at hi;split at hi
 .rename_i e k1 l k2 c hu;cases hl;cases hc
  split at hi
  .rename_i i z hie hz;cases hcnd:(Nat.ble l c&&Nat.ble (i.bytes * c) 281474976710656&&Nat.blt c 9223372036854775808)
   .simp only[hcnd,AAR]at hi;cases hi
   .simp only[hcnd,AAO,AAN,AAm]at hi;obtain⟨rfl,rfl⟩:=hi;obtain⟨o',T,hrun,hT,ho⟩:=Fy (P:=P) (Z:=Z) (W:=W) (k1:=k1) (k2:=k2) hu hie hz hcnd;obtain⟨g1,g2⟩:=h.alloc hT.1 ho;have:=VP;simp only[AAQ]at hcnd;have c3:c < 9223372036854775808:=VC hcnd.2;have hs:=E5 (Z:=Z) T H.next hT.2 l c c (.inl ⟨by omega,rfl⟩);rw[hT.1]at hs;exact⟨_,_,_,hrun,g1,hs,g2⟩
  .cases hi
 .cases hi
end
section
variable {P:Program}{base:Env}{W0:World}{Z:AW}{H:AA}{W:World}
def Ek(sz:Nat)(x:Value)(H:AA):Option (Nat × AL):=
 match x with
 | .slice none n _=>bif Nat.beq n 0 then some (0,[])else none
 | .slice (some ⟨b,off,none⟩) n _=>
  bif Nat.beq (n * sz) 0 then some (n,[])else
  match H.get b with
  | some (.cells cs _ _)=>let l:=(cs.drop off).take (n * sz);bif Nat.beq l.length (n * sz)then some (n,l)else none
  | _=>none
 | .string s=>bif Nat.beq sz 1 then some (s.size,s.data.toList.map fun b=> .int .u8 b.toNat)else none
 | _=>none
theorem G3(h:AH base W0 Z H W){sz n k:Nat}{x x':Value}{l:AL}(hx:AF Z x x')(hi:Ek sz x H=some (n,l))(hk:k<=n):
 (Builtin.lenOf x').run P W= .ok n W/\l.length=n * sz/\∃l',Af Z (l.take (k * sz)) l'/\(Builtin.firstCells sz k x').run P W= .ok l'.toArray W:=by
 unfold Ek at hi;split at hi
 .rename_i m c;cases hx
  cases hb:Nat.beq m 0
  .simp[hb]at hi
  .simp only[hb,AAO,AAN,AAm]at hi;obtain⟨rfl,rfl⟩:=hi;have:=AAP hb;subst this;exact⟨rfl,by simp,[],by simpa using Af.nil,rfl⟩
 .rename_i b off m c;cases hx with
  | slice _ _ _ _ cap' o' T hm hc ho=>
   cases hb:Nat.beq (m * sz) 0
   .simp only[hb,AAR]at hi;have hnz:m * sz≠0:=by intro e;rw[e]at hb;cases hb
    split at hi
    .rename_i cs e ro hget;cases hl:Nat.beq ((cs.drop off).take (m * sz)).length (m * sz)
     .rw[hl]at hi;cases hi
     .rw[hl]at hi;simp only[AAO,AAN,AAm]at hi;obtain⟨rfl,rfl⟩:=hi;have hlen:=AAP hl;have hoff:o'=T.d+off:=by
       rcases ho with ho | ⟨h1,_⟩
       .exact ho
       .subst h1;simp at hnz
      subst hoff;have hkk:k * sz<=m * sz:=AA9 sz hk;have mb:(((cs.drop off).take (m * sz)).take (k * sz)).length=k * sz:=by rw[AAh,hlen];omega
      obtain⟨l',r1,r2,_⟩:=h.row hget hm (off:=off) (l:=((cs.drop off).take (m * sz)).take (k * sz)) (by rw[mb,ABi,ABX hkk]) P;rw[mb]at r2;exact⟨rfl,hlen,l',r1,r2⟩
    .cases hi
   .simp only[hb,AAO,AAN,AAm]at hi;obtain⟨rfl,rfl⟩:=hi;have hz:=AAP hb;have hkk:k * sz<=m * sz:=AA9 sz hk;have hk0:k * sz=0:=by omega
    refine⟨rfl,by simp[hz],[],by simpa using Af.nil,?_⟩;simp[Builtin.firstCells,hk0,loadCells,loadCellsFrom]
 .rename_i s;cases hx
  cases hb:Nat.beq sz 1
  .simp[hb]at hi
  .simp only[hb,AAO,AAN,AAm]at hi;obtain⟨rfl,rfl⟩:=hi;have:=AAP hb;subst this;refine⟨rfl,by rw[ABI,ACN];rfl,(s.extract 0 k).data.toList.map fun b=> .int .u8 b.toNat,?_,by
    show Result.ok ((s.extract 0 k).data.map _) W=_
    congr 1
    apply Array.ext'
    rw[ABb]⟩
   have:(s.extract 0 k).data.toList=s.data.toList.take k:=by simp[ByteArray.data_extract]
   rw[ACN,<-List.map_take,<-this];exact Af.map _ _ _ fun b _=> .int _ _
 .cases hi
theorem b8(newLen:Nat):∀(k c:Nat),c < newLen->Builtin.growBy newLen k c<=newLen+newLen / 4+192:=by
 intro k;induction k with
 | zero=>intro c h;simp only[Builtin.growBy];omega
 | succ k ih=>
  intro c h;simp only[Builtin.growBy];rw[AAW (by omega)];rcases AAt (c+(c+768) / 4) newLen with h1 | h1
  .exact ih _ h1
  .cases k with
   | zero=>simp only[Builtin.growBy];omega
   | succ k=>simp only[Builtin.growBy];rw[AAZ h1];omega
theorem Jl{need cap:Nat}(h:cap < need):Builtin.nextslicecap need cap<=2 * need+192:=by
 unfold Builtin.nextslicecap;split
 .omega
 .split
  .omega
  .have:=b8 need 4 cap h;omega
theorem Lu{argTypes:Array TypeId}{ty sT xT e:TypeId}{d:TypeDesc}{i:TypeInfo}{bs:Option Addr}{len cap n:Nat}{x:Value}{l:AL}{w':World}(ht:argTypes.toList=[sT,xT])(hu:P.underlying sT=some (.slice e))(hux:P.underlying xT=some d)(hd:d= .string\/∃q,d= .slice q)(hi:P.info? e=some i)(hn:(Builtin.lenOf x).run P W= .ok n W)(hc:len+n<=cap)(hf:(Builtin.firstCells i.size n x).run P W= .ok l.toArray W)(hst:∀a,bs=some a->(storeCells (a.add (len * i.size)) l).run P W= .ok () w')(hno:bs=none->w'=W):
 (Builtin.append_ argTypes ty #[.slice bs len cap,x]).run P W= .ok (.slice bs (len+n) cap) w':=by
 obtain rfl:argTypes=#[sT,xT]:=by rw[<-ABx];simpa using ht
 cases bs with
 | none=>
  obtain rfl:=hno rfl;rcases hd with rfl | ⟨q,rfl⟩<;>simp[Builtin.append_,run_underlying hu,run_underlying hux,sizeOf,typeInfo,hi,hn,hc,hf]
 | some a=>
  have hst:=hst a rfl;rcases hd with rfl | ⟨q,rfl⟩<;>simp[Builtin.append_,run_underlying hu,run_underlying hux,sizeOf,typeInfo,hi,hn,hc,hf,hst]
theorem JP{argTypes:Array TypeId}{ty sT xT e:TypeId}{d:TypeDesc}{i:TypeInfo}{bs:Option Addr}{len cap n:Nat}{x z:Value}{l lo:AL}(ht:argTypes.toList=[sT,xT])(hu:P.underlying sT=some (.slice e))(hux:P.underlying xT=some d)(hd:d= .string\/∃q,d= .slice q)(hi:P.info? e=some i)(hz:i.zero=some z)(hn:(Builtin.lenOf x).run P W= .ok n W)(hc:¬len+n<=cap)(hb:(2 * (len+n)+192) * i.bytes<=281474976710656)(hneed:len+n<=4611686018427387904)(hf:(Builtin.firstCells i.size n x).run P W.drew= .ok l.toArray W.drew)(hfo:(Builtin.firstCells i.size len (.slice bs len cap)).run P W.drew= .ok lo.toArray W.drew):
 ∃newCap,len+n<=newCap/\newCap<=9223372036854775807/\(Builtin.append_ argTypes ty #[.slice bs len cap,x]).run P W= .ok (.slice (some ⟨W.heap.size,0,none⟩) (len+n) newCap)
  (W.drew.alloc (.cells (lo.toArray++l.toArray++Builtin.zeroCells z.cells (newCap - (len+n))) e)):=by
 obtain rfl:argTypes=#[sT,xT]:=by rw[<-ABx];simpa using ht
 have hnc:=Jl (need:=len+n) (cap:=cap) (by omega);have h48:¬(281474976710656 < Builtin.nextslicecap (len+n) cap * i.bytes):=by
  have:=AA9 i.bytes hnc;omega
 have h63:¬(9223372036854775807 < ((len:Int)+(n:Int))):=by omega
 refine⟨grownCap W (len+n) cap e,by simp[grownCap,Question.cut],by simp only[grownCap,Question.cut];have:=ACQ (W.tape W.drawn (.appendCap (len+n) cap e)) (y:=2 ^ 63 - (len+n)) (by omega);omega,?_⟩;rcases hd with rfl | ⟨q,rfl⟩<;>
  (simp[Builtin.append_,run_underlying hu,run_underlying hux,sizeOf,typeInfo,zeroValue,hi,hz,hn,hc,h63,h48,Question.forced,hf,hfo,newRow,grownCap]
   congr 2
   apply Array.ext'
   simp[List.append_assoc])
def GW(sz len n cap:Nat)(a:Option Addr)(new:AL)(H:AA):Option (Value × AA):=
 match a with
 | some ⟨b,off,none⟩=>
  match H.get b with
  | some (.cells cs e false)=>
   bif Nat.ble (off+len * sz+new.length) cs.length then some (.slice a (len+n) cap,H.put b (.cells (Be cs (off+len * sz) new) e false))else none
  | _=>none
 | _=>none
def NM(sz bytes len n:Nat)(a:Value)(new:AL)(H:AA):Option (Value × AA):=
 match Ek sz a H with
 | some (_,GM)=>
  bif Nat.ble ((2 * (len+n)+192) * bytes) 281474976710656&&Nat.ble (len+n) 4611686018427387904 then
   some (.slice (some ⟨H.next,0,none⟩) (len+n) (AT+(len+n)),H.alloc (.cells (GM++new) sz false))
  else none
 | none=>none
def FH(sz bytes len n:Nat)(s:Value)(new:AL)(H:AA):Option (Value × AA):=
 match s with
 | .slice (some ⟨b,off,none⟩) _ _=>
  match H.get b with
  | some (.cells cs e false)=>
   let GM:=(cs.drop off).take (len * sz)
   bif Nat.beq GM.length (len * sz)&&Nat.beq e sz&&Nat.ble ((2 * (len+n)+192) * bytes) 281474976710656&&Nat.ble (len+n) 4611686018427387904 then
    some (.slice (some ⟨H.next,0,none⟩) (len+n) (AT+(len+n)),(H.del b).alloc (.cells (GM++new) sz false))
   else none
  | _=>none
 | _=>none
def I2(sz bytes:Nat)(s:Value)(n:Nat)(new:AL)(H:AA):Option (Value × AA):=
 match s with
 | .slice a len cap=>
  bif Nat.beq n 0 then(bif Nat.ble len cap then some (s,H)else none)
  else bif Nat.blt cap AT then
   bif Nat.ble (len+n) cap then GW sz len n cap a new H else NM sz bytes len n s new H
  else bif Nat.ble (len+n) (cap - AT)then GW sz len n cap a new H
  else FH sz bytes len n s new H
 | _=>none
def Dj:Option TypeDesc->Bool
 | some .string=>true
 | some (.slice _)=>true
 | _=>false
def Ny:Option TypeDesc->Bool
 | some (.int _)=>true
 | _=>false
def qd(z:AL)(bytes:Nat)(x:Value):Option (Nat × AL):=
 match x with
 | .int _ (.ofNat n)=>bif Nat.ble (n * bytes) 281474976710656&&Nat.ble n 9223372036854775807 then some (n,Ds z (n * z.length))else none
 | _=>none
def Tk(P:Program)(argTypes:Array TypeId)(args:AL)(H:AA):Option (Value × AA):=
 match argTypes.toList,args with
 | [sT,xT],[s,x]=>
  match P.underlying sT with
  | some (.slice e)=>
   match P.info? e,Is P e with
   | some i,some z=>
    bif Ny (P.underlying xT)then
     match qd z i.bytes x with
     | some (n,new)=>bif new.all Bc&&Nat.beq z.length i.size then I2 i.size i.bytes s n new H else none
     | none=>none
    else
    match Ek i.size x H with
    | some (n,new)=>
     bif Dj (P.underlying xT)&&new.all Bc&&Nat.beq z.length i.size then I2 i.size i.bytes s n new H else none
    | none=>none
   | _,_=>none
  | _=>none
 | _,_=>none
theorem KF(P:Program)(c:Nat)(t:TypeId)(fz:Nat × Nat):∀(l:AL)(k o:Nat)(a:BE)(w:World),w.heap[c]? = some (.cells a t fz)->o+k+l.length<=a.size->(∀i,i < a.size->¬(fz.1<=i/\i < fz.2))->(∀v∈l,v.oneCell'=true)->
 ∃w' a',(storeCells ⟨c,o,none⟩ l k).run P w= .ok () w'/\w'.heap[c]? = some (.cells a' t fz)/\a'.toList=Be a.toList (o+k) l/\w'.heap.size=w.heap.size/\(∀i,i≠c->w'.heap[i]? = w.heap[i]?)/\w'.output=w.output/\w'.os=w.os:=by
 intro l;induction l with
 | nil=>intro k o a w hw _ _ _;exact⟨w,a,rfl,hw,by rw[Ja],rfl,fun _ _=>rfl,rfl,rfl⟩
 | cons v l ih=>
  intro k o a w hw hlen hf h1;simp only[AAz]at hlen;have hadd:(⟨c,o,none⟩:Addr).add k=⟨c,o+k,none⟩:=add_eq c o k;have hcell:w.cell? ⟨c,o+k,none⟩=some (a[o+k]'(by omega)):=by
   simp only[World.cell?,hw];simp
  have hfz:w.frozen? ⟨c,o+k,none⟩=false:=by
   have:=hf (o+k) (by omega);simp only[World.frozen?,hw];simp only[ABf,ABE];omega
  have hst:(store ((⟨c,o,none⟩:Addr).add k) v).run P w= .ok () (w.setCell ⟨c,o+k,none⟩ v):=by
   rw[hadd,run_store P w _ v _ (h1 v (by simp))];simp[hcell,hfz]
  have hw1:(w.setCell ⟨c,o+k,none⟩ v).heap[c]? = some (.cells (a.setIfInBounds (o+k) v) t fz):=by
   simp only[World.setCell,AB2,ACA,hw];rfl
  obtain⟨w',a',r1,r2,r3,r4,r5,r6,r7⟩:=ih (k+1) o (a.setIfInBounds (o+k) v) (w.setCell ⟨c,o+k,none⟩ v) hw1 (by simp;omega) (by simpa using hf) (fun x hx=>h1 x (by simp[hx]));refine⟨w',a',?_,r2,?_,?_,?_,r6,r7⟩
  .simp only[storeCells,Sem.run_bind,hst,Result.andThen_ok,r1]
  .rw[r3,HI _ _ _ _ (by simp;omega),ACH];rfl
  .rw[r4];simp
  .intro i hi;rw[r5 i hi];simp only[World.setCell,AB2];rw[AAW (ABB hi)]
theorem Gn{o:Option TypeDesc}(h:Dj o=true):∃d,o=some d/\(d= .string\/∃q,d= .slice q):=by
 unfold Dj at h;split at h
 .exact⟨_,rfl,.inl rfl⟩
 .exact⟨_,rfl,.inr ⟨_,rfl⟩⟩
 .cases h
theorem E3(z:BE)(n:Nat):(Builtin.zeroCells z n).size=n * z.size:=by simp[Builtin.zeroCells]
structure MJ(P:Program)(Z:AW)(W:World)(argTypes:Array TypeId)(ty e:TypeId)(i:TypeInfo)(zz x':Value)(n:Nat)(new:AL):Prop where
 yW:∃new',Af Z new new'/\∀(bs:Option Addr)(len cap:Nat)(w':World),len+n<=cap->(∀a,bs=some a->(storeCells (a.add (len * i.size)) new').run P W= .ok () w')->(bs=none->w'=W)->
  (Builtin.append_ argTypes ty #[.slice bs len cap,x']).run P W= .ok (.slice bs (len+n) cap) w'
 fy:∃new2,Af Z new new2/\∀(bs:Option Addr)(len cap:Nat)(lo:AL),¬len+n<=cap->(2 * (len+n)+192) * i.bytes<=281474976710656->len+n<=4611686018427387904->
  (Builtin.firstCells i.size len (.slice bs len cap)).run P W.drew= .ok lo.toArray W.drew->∃newCap,len+n<=newCap/\newCap<=9223372036854775807/\(Builtin.append_ argTypes ty #[.slice bs len cap,x']).run P W= .ok (.slice (some ⟨W.heap.size,0,none⟩) (len+n) newCap)
   (W.drew.alloc (.cells (lo.toArray++new2.toArray++Builtin.zeroCells zz.cells (newCap - (len+n))) e))
theorem Lt(h:AH base W0 Z H W){argTypes:Array TypeId}{ty e:TypeId}{i:TypeInfo}{zz s s' x' v:Value}{n:Nat}{new:AL}{H':AA}(hs:AF Z s s')(hsrc:MJ P Z W argTypes ty e i zz x' n new)(hzsz:zz.cells.size=i.size)(hnl:new.length=n * i.size)(hok:new.all Bc=true)(hcu:∀a len cap,s= .slice a len cap->AT<=cap){len:Nat}(hlen:∀a m cap,s= .slice a m cap->m=len)(hi:FH i.size i.bytes len n s new H=some (v,H')):
 ∃μ' v' W',(Builtin.append_ argTypes ty #[s',x']).run P W= .ok v' W'/\AH base W0 μ' H' W'/\AF μ' v v'/\Ah Z H μ' H':=by
 obtain⟨new',hn1,hinR⟩:=hsrc.yW;have hgrow:∀(bs:Option Addr)(len cap':Nat)(GM:AL)(Hd:AA),AH base W0 Z Hd W->Ah Z H Z Hd->¬len+n<=cap'->(2 * (len+n)+192) * i.bytes<=281474976710656->len+n<=4611686018427387904->GM.length=len * i.size->
  (∃old',Af Z GM old'/\(Builtin.firstCells i.size len (.slice bs len cap')).run P W.drew= .ok old'.toArray W.drew)->
  ∃μ' v' W',(Builtin.append_ argTypes ty #[.slice bs len cap',x']).run P W= .ok v' W'/\AH base W0 μ' (Hd.alloc (.cells (GM++new) i.size false)) W'/\
   AF μ' (.slice (some ⟨Hd.next,0,none⟩) (len+n) (AT+(len+n))) v'/\Ah Z H μ' (Hd.alloc (.cells (GM++new) i.size false)):=by
  intro bs len cap' GM Hd hd0 hev hnc hbig hbig2 holen ⟨old',o1,o2⟩;obtain⟨new2,m1,hgr⟩:=hsrc.fy;obtain⟨newCap,g1,g1b,g2⟩:=hgr bs len cap' old' hnc hbig hbig2 o2;have hal:=(hd0.drawn (W.drawn+1)).alloc (T:=⟨W.heap.size,0,newCap * i.size,i.size⟩) (o:= .cells (GM++new) i.size false) (o':= .cells (old'.toArray++new2.toArray++Builtin.zeroCells zz.cells (newCap - (len+n))) e) rfl ?_
  .refine⟨_,_,_,g2,hal.1,E5 _ _ rfl _ _ _ (.inr ⟨by omega,by omega,g1,?_,.inr g1b⟩),hev.trans hal.2⟩;show 0+newCap * i.size<=newCap * i.size;omega
  .have e1:=o1.length;have e2:=m1.length;refine .cells ⟨W.heap.size,0,newCap * i.size,i.size⟩ _ _ false _ e 0 0 rfl ?_ ?_ (fun _ j _=>by omega)
   .simp only[AA5,ABW,AA2];rw[<-AA2,AA0 (by simp;omega),AAc (by simp;omega)];exact o1.append m1
   .simp only[AC6,ACb,E3,hzsz,AAj];rw[<-e1,<-e2,holen,hnl,<-ABj,<-ABj]
    congr 1
    omega
 unfold FH at hi;split at hi
 .rename_i b off len2 cap;have e9:=(hlen _ _ _ rfl).symm;subst e9;have hcapU:AT<=cap:=hcu _ _ _ rfl;split at hi
  .rename_i cs ee hget;cases hbb:(Nat.beq ((cs.drop off).take (len * i.size)).length (len * i.size)&&Nat.beq ee i.size&&Nat.ble ((2 * (len+n)+192) * i.bytes) 281474976710656&&Nat.ble (len+n) 4611686018427387904)
   .simp only[hbb,AAR]at hi;cases hi
   .simp only[hbb,AAO,AAN,AAm]at hi;obtain⟨rfl,rfl⟩:=hi;simp only[AAQ]at hbb;obtain⟨⟨⟨b1,b2⟩,b3⟩,b4⟩:=hbb;have b1:=AAP b1;have b2:=AAP b2;have b3:=VC b3;have b4:=VC b4;subst b2;cases hs with
    | slice _ _ _ _ cap' o' T hm hcr ho=>
     have hcr':cap - AT<=cap'/\len<=cap'/\off+cap' * T.e<=T.r/\(T.e=1\/cap'<=9223372036854775807):=by
      rcases hcr with⟨c1,c2⟩ | ⟨c1,c2,c3,c4,c5⟩
      .omega
      .exact⟨c2,c3,c4,c5⟩
     obtain⟨c2,c3,c4,c5⟩:=hcr';obtain⟨hdel,hdelE⟩:=h.del hm
     by_cases hfit:len+n<=cap'
     .by_cases hoo:o'=T.d+off
      rotate_left
      .have hdeg:len=0/\cap'=0:=by rcases ho with ho | ho;exact absurd ho hoo;exact ho
       obtain⟨rfl,rfl⟩:=hdeg;have hn00:n=0:=by omega
       subst hn00;have hnew:new=[]:=AAp (by omega);subst hnew;have hnew':new'=[]:=AAp (by have:=hn1.length;simpa using this.symm);subst hnew';obtain⟨ob,hob,hor⟩:=h.obj b _ hget T hm;cases hor with
       | cells _ _ _ arr t lo hi2 hTe hcl hsz hfz=>
        obtain⟨φ,q⟩:=h.abs;have hmap:=hdel.LM (T:=⟨T.c,T.d+off,T.r - off,i.size⟩) (o:= .cells ((cs.drop off).take (0 * i.size)++[]) i.size false) (W':=W) (AAT _)
         (fun j _ hj=>rfl)
         (fun b' p T' hb' hm' hv=>by
          intro e1;rw[AA.BK]at hb'
          by_cases e2:b'=b
          .rw[AAZ e2]at hb';cases hb'
          .rw[AAW e2]at hb';exact e2 (h.inj b' b _ _ hb' hget T' T hm' hm hv id e1 (.inr rfl)))
         ⟨φ,⟨fun b' a ro T' h1 h2=>q.rep b' a ro T' (AA.BS h1).2 h2,fun b' a ro T' h1 h2 b2 o2 T2 h3 h4 h5=>q.C3 b' a ro T' (AA.BS h1).2 h2 b2 o2 T2 (AA.BS h3).2 h4 h5⟩,
          fun b' a ro h1 ⟨T',h2⟩=>(q.C3 b' a ro T' (AA.BS h1).2 h2 b _ T hget hm (ABB (AA.BS h1).1)).1 id⟩
         hob (h.own b _ hget rfl T hm id) ?_ rfl rfl
        .refine⟨_,_,W,hinR _ _ _ _ (AAT _) (fun a ha=>?_) (fun ha=>by cases ha),hmap.1,?_,hdelE.trans hmap.2⟩
         .cases ha
          simp[storeCells]
         .exact .slice H.next 0 _ _ _ _ ⟨T.c,T.d+off,T.r - off,i.size⟩ (AW.AY _ _ _) (.inr ⟨by omega,by omega,hfit,by show 0+0 * i.size<=T.r - off;omega,by omega⟩) (.inr ⟨rfl,rfl⟩)
        .refine .cells ⟨T.c,T.d+off,T.r - off,i.size⟩ _ _ false _ t lo hi2 rfl ?_ ?_ ?_
         .simp only[ABy,ACd,ABq];exact .nil
         .show arr.size=T.d+off+(T.r - off);simp only[ABy,AB6]at c4;omega
         .intro _ j hj;exact hfz rfl j hj
      subst hoo;obtain⟨ob,hob,hor⟩:=h.obj b _ hget T hm;cases hor with
      | cells _ _ _ arr t lo hi2 hTe hcl hsz hfz=>
       rw[<-hTe]at c4;have hne1:len * i.size+n * i.size<=cap' * i.size:=by rw[<-ABj];exact AA9 _ hfit
       have hcslen:=hcl.length;have hn1l:=hn1.length;obtain⟨w',arr',r1,r2,r3,r4,r5,r6,r7⟩:=KF P T.c t (lo,hi2) new' 0 (T.d+off+len * i.size) arr W hob (by omega) (fun j hj=>hfz rfl j (.inl hj)) (fun q hq=>by
        obtain⟨k,hk,rfl⟩:=ACT hq;have hk2:k < new.length:=by omega
        exact Jh (hn1.idx k hk2 hk) (List.all_eq_true.1 hok _ (ABz hk2)))
       obtain⟨φ,q⟩:=h.abs;have hmap:=hdel.LM (T:=⟨T.c,T.d+off,T.r - off,i.size⟩) (o:= .cells ((cs.drop off).take (len * i.size)++new) i.size false) (W':=w') (by omega)
        (fun j _ hj=>r5 j hj)
        (fun b' p T' hb' hm' hv=>by
         intro e1;rw[AA.BK]at hb'
         by_cases e2:b'=b
         .rw[AAZ e2]at hb';cases hb'
         .rw[AAW e2]at hb';exact e2 (h.inj b' b _ _ hb' hget T' T hm' hm hv id e1 (.inr rfl)))
        ⟨φ,⟨fun b' a ro T' h1 h2=>q.rep b' a ro T' (AA.BS h1).2 h2,fun b' a ro T' h1 h2 b2 o2 T2 h3 h4 h5=>q.C3 b' a ro T' (AA.BS h1).2 h2 b2 o2 T2 (AA.BS h3).2 h4 h5⟩,
         fun b' a ro h1 ⟨T',h2⟩=>(q.C3 b' a ro T' (AA.BS h1).2 h2 b _ T hget hm (ABB (AA.BS h1).1)).1 id⟩
        r2 (h.own b _ hget rfl T hm id) ?_ r6 r7
       .refine⟨_,_,w',hinR _ _ _ _ hfit (fun a ha=>?_) (fun ha=>by cases ha),hmap.1,?_,hdelE.trans hmap.2⟩
        .cases ha
         rw[add_eq];exact r1
        .exact .slice H.next 0 _ _ _ _ ⟨T.c,T.d+off,T.r - off,i.size⟩ (AW.AY _ _ _) (.inr ⟨by omega,by omega,hfit,by show 0+cap' * i.size<=T.r - off;omega,by show i.size=1\/_;omega⟩) (.inl rfl)
       .refine .cells ⟨T.c,T.d+off,T.r - off,i.size⟩ _ _ false _ t lo hi2 rfl ?_ ?_ ?_
        .have hal:arr.toList.length=arr.size:=by simp
         show Af Z _ (List.take _ (List.drop (T.d+off) arr'.toList));rw[r3,AB6];have hold:Af Z ((cs.drop off).take (len * i.size)) ((arr.toList.drop (T.d+off)).take (len * i.size)):=by
          have:=(hcl.drop off).take (len * i.size);rw[ACe,ACV,ABi,ABX (by rw[AAh,AAo]at b1;omega)]at this;exact this
         have hsplit:(Be arr.toList (T.d+off+len * i.size) new').drop (T.d+off)=((arr.toList.drop (T.d+off)).take (len * i.size))++(new'++arr.toList.drop (T.d+off+len * i.size+new'.length)):=by
          unfold Be;rw[AB0 (by simp;omega),ACe]
          congr 2
          omega
         have hol:=hold.length;generalize hO:(cs.drop off).take (len * i.size)=O at hold hol b1 ⊢;generalize hO':(arr.toList.drop (T.d+off)).take (len * i.size)=O' at hold hol hsplit;rw[hsplit,<-AA2,AA0 (by simp only[AAf];omega),AAc (l:=O'++new') (by simp only[AAf];omega)];exact hold.append hn1
        .show arr'.size=T.d+off+(T.r - off);have:arr'.toList.length=arr.size:=by
          rw[r3];unfold Be
          simp only[AAf,AAh,AAo,AAy];omega
         rw[AAy]at this;omega
        .intro _ j hj;refine hfz rfl j ?_;have hsame:arr'.size=arr.size->(j < arr.size\/(j=arr.size/\i.size≠1)):=fun e=>by rw[<-e];exact hj
         refine hsame ?_;have:arr'.toList.length=arr.size:=by
          rw[r3];unfold Be
          simp only[AAf,AAh,AAo,AAy];omega
         rw[AAy]at this;omega
     .refine hgrow _ len cap' _ (H.del b) hdel hdelE hfit b3 b4 b1 ?_;have hsrcq:∃q,Ek i.size (.slice (some ⟨b,off,none⟩) len cap) H=some (len,q)/\q=(cs.drop off).take (len * i.size):=by
       unfold Ek;cases hz0:Nat.beq (len * i.size) 0
       .simp only[hz0,AAR,hget];rw[show Nat.beq ((cs.drop off).take (len * i.size)).length (len * i.size)=true by rw[b1];exact AAu _];exact⟨_,rfl,rfl⟩
       .simp only[hz0,AAO];have hz0:=AAP hz0;exact⟨[],rfl,by rw[hz0];simp⟩
      obtain⟨q,hq1,hq2⟩:=hsrcq;obtain⟨_,ol,old',o1,o2⟩:=G3 (P:=P) (h.drawn (W.drawn+1)) (AF.slice b off len cap cap' o' T hm hcr ho) hq1 (AAT len);rw[AAc (by omega),hq2]at o1;exact⟨old',o1,o2⟩
  .cases hi
 .cases hi
theorem HK(h:AH base W0 Z H W){argTypes:Array TypeId}{ty e:TypeId}{i:TypeInfo}{zz s s' x' v:Value}{n:Nat}{new:AL}{H':AA}(hs:AF Z s s')(hsrc:MJ P Z W argTypes ty e i zz x' n new)(hzsz:zz.cells.size=i.size)(hnl:new.length=n * i.size)(hok:new.all Bc=true)(hi:I2 i.size i.bytes s n new H=some (v,H')):
 ∃μ' v' W',(Builtin.append_ argTypes ty #[s',x']).run P W= .ok v' W'/\AH base W0 μ' H' W'/\AF μ' v v'/\Ah Z H μ' H':=by
 obtain⟨new',hn1,hinR⟩:=hsrc.yW;have hgrow:∀(bs:Option Addr)(len cap':Nat)(GM:AL)(Hd:AA),AH base W0 Z Hd W->Ah Z H Z Hd->¬len+n<=cap'->(2 * (len+n)+192) * i.bytes<=281474976710656->len+n<=4611686018427387904->GM.length=len * i.size->
  (∃old',Af Z GM old'/\(Builtin.firstCells i.size len (.slice bs len cap')).run P W.drew= .ok old'.toArray W.drew)->
  ∃μ' v' W',(Builtin.append_ argTypes ty #[.slice bs len cap',x']).run P W= .ok v' W'/\AH base W0 μ' (Hd.alloc (.cells (GM++new) i.size false)) W'/\
   AF μ' (.slice (some ⟨Hd.next,0,none⟩) (len+n) (AT+(len+n))) v'/\Ah Z H μ' (Hd.alloc (.cells (GM++new) i.size false)):=by
  intro bs len cap' GM Hd hd0 hev hnc hbig hbig2 holen ⟨old',o1,o2⟩;obtain⟨new2,m1,hgr⟩:=hsrc.fy;obtain⟨newCap,g1,g1b,g2⟩:=hgr bs len cap' old' hnc hbig hbig2 o2;have hal:=(hd0.drawn (W.drawn+1)).alloc (T:=⟨W.heap.size,0,newCap * i.size,i.size⟩) (o:= .cells (GM++new) i.size false) (o':= .cells (old'.toArray++new2.toArray++Builtin.zeroCells zz.cells (newCap - (len+n))) e) rfl ?_
  .refine⟨_,_,_,g2,hal.1,E5 _ _ rfl _ _ _ (.inr ⟨by omega,by omega,g1,?_,.inr g1b⟩),hev.trans hal.2⟩;show 0+newCap * i.size<=newCap * i.size;omega
  .have e1:=o1.length;have e2:=m1.length;refine .cells ⟨W.heap.size,0,newCap * i.size,i.size⟩ _ _ false _ e 0 0 rfl ?_ ?_ (fun _ j _=>by omega)
   .simp only[AA5,ABW,AA2];rw[<-AA2,AA0 (by simp;omega),AAc (by simp;omega)];exact o1.append m1
   .simp only[AC6,ACb,E3,hzsz,AAj];rw[<-e1,<-e2,holen,hnl,<-ABj,<-ABj]
    congr 1
    omega
 unfold I2 at hi;split at hi
 .rename_i a len cap;cases hn0:Nat.beq n 0
  .simp only[hn0,AAR]at hi;have hnpos:n≠0:=by intro e;rw[e]at hn0;cases hn0
   have hin:∀(cap':Nat),s'= .slice (match s' with | .slice a _ _=>a | _=>none) len cap'->len+n<=cap'->GW i.size len n cap a new H=some (v,H')->
    ∃μ' v' W',(Builtin.append_ argTypes ty #[s',x']).run P W= .ok v' W'/\AH base W0 μ' H' W'/\AF μ' v v'/\Ah Z H μ' H':=by
    intro cap' hs' hle hin;unfold GW at hin;split at hin
    .rename_i b off;cases hs with
     | slice _ _ _ _ cap2 o' T hm hcr ho=>
      have hcc:cap2=cap':=by injection hs'
      subst hcc;split at hin
      .rename_i cs ee hget;cases hbb:Nat.ble (off+len * i.size+new.length) cs.length
       .simp[hbb]at hin
       .simp only[hbb,AAO,AAN,AAm]at hin;obtain⟨rfl,rfl⟩:=hin;have hbb:=VC hbb;have hoo:o'=T.d+off:=by
         rcases ho with ho | ⟨h1,h2⟩
         .exact ho
         .omega
        subst hoo;obtain⟨W',w1,w2,w3⟩:=AH.T8 P hm new new' H W cs (off+len * i.size) 0 h hget hn1 hok (by omega);refine⟨Z,_,W',hinR _ _ _ _ hle (fun a ha=>?_) (fun ha=>by cases ha),w2,?_,w3⟩
        .cases ha
         rw[add_eq,ABH];exact w1
        .refine .slice b off _ _ _ _ T hm ?_ (.inl rfl);rcases hcr with⟨c1,c2⟩ | ⟨c1,c2,c3,c4,c5⟩
         .exact .inl ⟨c1,c2⟩
         .exact .inr ⟨c1,c2,hle,c4,c5⟩
      .cases hin
    .cases hin
   cases hx1:Nat.blt cap AT
   .simp only[hx1,AAR]at hi;have hcapU:AT<=cap:=by
     rcases AAt cap AT with hh | hh
     .exact absurd (AAS hh) (by rw[show Nat.ble (cap+1) AT=Nat.blt cap AT from rfl,hx1];decide)
     .exact hh
    cases hx2:Nat.ble (len+n) (cap - AT)
    .simp only[hx2,AAR]at hi;unfold FH at hi;split at hi
     .rename_i b off _ _ heq;cases heq
      split at hi
      .rename_i cs ee hget;cases hbb:(Nat.beq ((cs.drop off).take (len * i.size)).length (len * i.size)&&Nat.beq ee i.size&&Nat.ble ((2 * (len+n)+192) * i.bytes) 281474976710656&&Nat.ble (len+n) 4611686018427387904)
       .simp only[hbb,AAR]at hi;cases hi
       .simp only[hbb,AAO,AAN,AAm]at hi;obtain⟨rfl,rfl⟩:=hi;simp only[AAQ]at hbb;obtain⟨⟨⟨b1,b2⟩,b3⟩,b4⟩:=hbb;have b1:=AAP b1;have b2:=AAP b2;have b3:=VC b3;have b4:=VC b4;subst b2;cases hs with
        | slice _ _ _ _ cap' o' T hm hcr ho=>
         have hcr':cap - AT<=cap'/\len<=cap'/\off+cap' * T.e<=T.r/\(T.e=1\/cap'<=9223372036854775807):=by
          rcases hcr with⟨c1,c2⟩ | ⟨c1,c2,c3,c4,c5⟩
          .omega
          .exact⟨c2,c3,c4,c5⟩
         obtain⟨c2,c3,c4,c5⟩:=hcr';obtain⟨hdel,hdelE⟩:=h.del hm
         by_cases hfit:len+n<=cap'
         .have hoo:o'=T.d+off:=by
           rcases ho with ho | ⟨h1,h2⟩
           .exact ho
           .omega
          subst hoo;obtain⟨ob,hob,hor⟩:=h.obj b _ hget T hm;cases hor with
          | cells _ _ _ arr t lo hi2 hTe hcl hsz hfz=>
           rw[<-hTe]at c4;have hne1:len * i.size+n * i.size<=cap' * i.size:=by rw[<-ABj];exact AA9 _ hfit
           have hcslen:=hcl.length;have hn1l:=hn1.length;obtain⟨w',arr',r1,r2,r3,r4,r5,r6,r7⟩:=KF P T.c t (lo,hi2) new' 0 (T.d+off+len * i.size) arr W hob (by omega) (fun j hj=>hfz rfl j (.inl hj)) (fun q hq=>by
            obtain⟨k,hk,rfl⟩:=ACT hq;have hk2:k < new.length:=by omega
            exact Jh (hn1.idx k hk2 hk) (List.all_eq_true.1 hok _ (ABz hk2)))
           obtain⟨φ,q⟩:=h.abs;have hmap:=hdel.LM (T:=⟨T.c,T.d+off,T.r - off,i.size⟩) (o:= .cells ((cs.drop off).take (len * i.size)++new) i.size false) (W':=w') (by omega)
            (fun j _ hj=>r5 j hj)
            (fun b' p T' hb' hm' hv=>by
             intro e1;rw[AA.BK]at hb'
             by_cases e2:b'=b
             .rw[AAZ e2]at hb';cases hb'
             .rw[AAW e2]at hb';exact e2 (h.inj b' b _ _ hb' hget T' T hm' hm hv id e1 (.inr rfl)))
            ⟨φ,⟨fun b' a ro T' h1 h2=>q.rep b' a ro T' (AA.BS h1).2 h2,fun b' a ro T' h1 h2 b2 o2 T2 h3 h4 h5=>q.C3 b' a ro T' (AA.BS h1).2 h2 b2 o2 T2 (AA.BS h3).2 h4 h5⟩,
             fun b' a ro h1 ⟨T',h2⟩=>(q.C3 b' a ro T' (AA.BS h1).2 h2 b _ T hget hm (ABB (AA.BS h1).1)).1 id⟩
            r2 (h.own b _ hget rfl T hm id) ?_ r6 r7
           .refine⟨_,_,w',hinR _ _ _ _ hfit (fun a ha=>?_) (fun ha=>by cases ha),hmap.1,?_,hdelE.trans hmap.2⟩
            .cases ha
             rw[add_eq];exact r1
            .exact .slice H.next 0 _ _ _ _ ⟨T.c,T.d+off,T.r - off,i.size⟩ (AW.AY _ _ _) (.inr ⟨by omega,by omega,hfit,by show 0+cap' * i.size<=T.r - off;omega,by show i.size=1\/_;omega⟩) (.inl rfl)
           .refine .cells ⟨T.c,T.d+off,T.r - off,i.size⟩ _ _ false _ t lo hi2 rfl ?_ ?_ ?_
            .have hal:arr.toList.length=arr.size:=by simp
             show Af Z _ (List.take _ (List.drop (T.d+off) arr'.toList));rw[r3,AB6];have hold:Af Z ((cs.drop off).take (len * i.size)) ((arr.toList.drop (T.d+off)).take (len * i.size)):=by
              have:=(hcl.drop off).take (len * i.size);rw[ACe,ACV,ABi,ABX (by rw[AAh,AAo]at b1;omega)]at this;exact this
             have hsplit:(Be arr.toList (T.d+off+len * i.size) new').drop (T.d+off)=((arr.toList.drop (T.d+off)).take (len * i.size))++(new'++arr.toList.drop (T.d+off+len * i.size+new'.length)):=by
              unfold Be;rw[AB0 (by simp;omega),ACe]
              congr 2
              omega
             have hol:=hold.length;generalize hO:(cs.drop off).take (len * i.size)=O at hold hol b1 ⊢;generalize hO':(arr.toList.drop (T.d+off)).take (len * i.size)=O' at hold hol hsplit;rw[hsplit,<-AA2,AA0 (by simp only[AAf];omega),AAc (l:=O'++new') (by simp only[AAf];omega)];exact hold.append hn1
            .show arr'.size=T.d+off+(T.r - off);have:arr'.toList.length=arr.size:=by
              rw[r3];unfold Be
              simp only[AAf,AAh,AAo,AAy];omega
             rw[AAy]at this;omega
            .intro _ j hj;refine hfz rfl j ?_;have hsame:arr'.size=arr.size->(j < arr.size\/(j=arr.size/\i.size≠1)):=fun e=>by rw[<-e];exact hj
             refine hsame ?_;have:arr'.toList.length=arr.size:=by
              rw[r3];unfold Be
              simp only[AAf,AAh,AAo,AAy];omega
             rw[AAy]at this;omega
         .refine hgrow _ len cap' _ (H.del b) hdel hdelE hfit b3 b4 b1 ?_;have hsrcq:∃q,Ek i.size (.slice (some ⟨b,off,none⟩) len cap) H=some (len,q)/\q=(cs.drop off).take (len * i.size):=by
           unfold Ek;cases hz0:Nat.beq (len * i.size) 0
           .simp only[hz0,AAR,hget];rw[show Nat.beq ((cs.drop off).take (len * i.size)).length (len * i.size)=true by rw[b1];exact AAu _];exact⟨_,rfl,rfl⟩
           .simp only[hz0,AAO];have hz0:=AAP hz0;exact⟨[],rfl,by rw[hz0];simp⟩
          obtain⟨q,hq1,hq2⟩:=hsrcq;obtain⟨_,ol,old',o1,o2⟩:=G3 (P:=P) (h.drawn (W.drawn+1)) (AF.slice b off len cap cap' o' T hm hcr ho) hq1 (AAT len);rw[AAc (by omega),hq2]at o1;exact⟨old',o1,o2⟩
      .cases hi
     .cases hi
    .simp only[hx2,AAO]at hi;have hx2:=VC hx2;cases hs with
     | Cc=>unfold GW at hi;simp at hi
     | Bd=>unfold GW at hi;simp at hi
     | Dz=>unfold GW at hi;simp at hi
     | C9=>unfold GW at hi;simp at hi
     | GI=>unfold GW at hi;simp at hi
     | slice b o _ _ cap' o' T hm hcr ho=>
      refine hin cap' rfl ?_ hi;rcases hcr with⟨c1,c2⟩ | ⟨c1,c2,c3,c4,c5⟩<;>omega
   .simp only[hx1,AAO]at hi;have hx1:cap < AT:=VC hx1;cases hx2:Nat.ble (len+n) cap
    .simp only[hx2,AAR]at hi;have hx2:¬len+n<=cap:=fun hh=>by rw[AAS hh]at hx2;cases hx2
     unfold NM at hi;split at hi
     .rename_i m GM hso;cases hbb:(Nat.ble ((2 * (len+n)+192) * i.bytes) 281474976710656&&Nat.ble (len+n) 4611686018427387904)
      .simp only[hbb,AAR]at hi;cases hi
      .simp only[hbb,AAO,AAN,AAm]at hi;obtain⟨rfl,rfl⟩:=hi;simp only[AAQ]at hbb;have b1:=VC hbb.1;have b2:=VC hbb.2;have hlen2:=(G3 (P:=P) h hs hso (AA4 m)).1;cases hs with
       | Bd=>simp[Ek]at hso
       | Dz=>simp[Ek]at hso
       | C9=>simp[Ek]at hso
       | GI=>simp[Ek]at hso
       | Cc=>
        have hml:len=m:=by simpa [Builtin.lenOf] using hlen2
        subst hml;obtain⟨_,ol,old',o1,o2⟩:=G3 (P:=P) (h.drawn (W.drawn+1)) (AF.Cc len cap) hso (AAT len);rw[AAc (by omega)]at o1;exact hgrow none len cap GM H h (Ah.refl _ _) hx2 b1 b2 ol ⟨old',o1,o2⟩
       | slice b o _ _ cap' o' T hm hcr ho=>
        have hml:len=m:=by simpa [Builtin.lenOf] using hlen2
        subst hml;have hce:cap'=cap:=by rcases hcr with⟨_,c2⟩ | ⟨c1,_⟩<;>omega
        subst hce;obtain⟨_,ol,old',o1,o2⟩:=G3 (P:=P) (h.drawn (W.drawn+1)) (AF.slice b o len cap' cap' o' T hm hcr ho) hso (AAT len);rw[AAc (by omega)]at o1;exact hgrow _ len cap' GM H h (Ah.refl _ _) hx2 b1 b2 ol ⟨old',o1,o2⟩
     .cases hi
    .simp only[hx2,AAO]at hi;have hx2:=VC hx2;cases hs with
     | Cc=>unfold GW at hi;simp at hi
     | Bd=>unfold GW at hi;simp at hi
     | Dz=>unfold GW at hi;simp at hi
     | C9=>unfold GW at hi;simp at hi
     | GI=>unfold GW at hi;simp at hi
     | slice b o _ _ cap' o' T hm hcr ho=>
      refine hin cap' rfl ?_ hi;rcases hcr with⟨c1,c2⟩ | ⟨c1,c2,c3,c4,c5⟩<;>omega
  .simp only[hn0,AAO]at hi;have hn0:=AAP hn0;subst hn0;have hnew:new'=[]:=by
    have:=hn1.length;rw[hnl]at this;exact AAp (by omega)
   subst hnew;cases hle:Nat.ble len cap
   .simp[hle]at hi
   .simp only[hle,AAO,AAN,AAm]at hi;obtain⟨rfl,rfl⟩:=hi;have hle:=VC hle;cases hs with
    | Bd b j _ _ cap' o' T hm hcr ho hr=>
     refine⟨Z,_,W,hinR _ _ _ _ ?_ (fun a ha=>rfl) (fun ha=>by cases ha),h,.Bd b j _ _ _ o' T hm hcr ho hr,Ah.refl _ _⟩;rcases hcr with⟨c1,c2⟩ | ⟨c1,c2,c3,c4,c5⟩<;>omega
    | Cc=>
     exact⟨Z,_,W,hinR _ _ _ _ hle (fun a ha=>by cases ha) (fun _=>rfl),h,.Cc _ _,Ah.refl _ _⟩
    | C9 b j _ _ cap' o' T M hm hm2 hcr ho hr=>
     refine⟨Z,_,W,hinR _ _ _ _ ?_ (fun a ha=>rfl) (fun ha=>by cases ha),h,.C9 b j _ _ _ o' T M hm hm2 hcr ho hr,Ah.refl _ _⟩;rcases hcr with⟨c1,c2⟩ | ⟨c1,c2,c3,c4,c5⟩<;>omega
    | GI b j cap T a hm hc=>
     exact⟨Z,_,W,hinR _ _ _ _ (AAT _) (fun a ha=>rfl) (fun _=>rfl),h,.GI b j cap T a hm hc,Ah.refl _ _⟩
    | Dz b j cap T a hm hc=>
     exact⟨Z,_,W,hinR _ _ _ _ (AAT _) (fun a ha=>rfl) (fun _=>rfl),h,.Dz b j cap T a hm hc,Ah.refl _ _⟩
    | slice b o _ _ cap' o' T hm hcr ho=>
     refine⟨Z,_,W,hinR _ _ _ _ ?_ (fun a ha=>rfl) (fun ha=>by cases ha),h,.slice b o _ _ _ o' T hm hcr ho,Ah.refl _ _⟩;rcases hcr with⟨c1,c2⟩ | ⟨c1,c2,c3,c4,c5⟩<;>omega
 .cases hi
theorem rN{argTypes:Array TypeId}{ty sT xT e:TypeId}{k:IntKind}{i:TypeInfo}{n:Nat}{kx:IntKind}{zz:Value}{z:AL}(hz4:zz.cells.toList=z)(hfl:flat zz=true)(ht:argTypes.toList=[sT,xT])(hu:P.underlying sT=some (.slice e))(hux:P.underlying xT=some (.int k))(hi:P.info? e=some i)(hz:i.zero=some zz)(hzl:zz.cells.size=i.size)(hb:n * i.bytes<=281474976710656)(hn:n<=9223372036854775807):
 MJ P Z W argTypes ty e i zz (.int kx (Int.ofNat n)) n (Ds z (n * z.length)):=by
 obtain rfl:argTypes=#[sT,xT]:=by rw[<-ABx];simpa using ht
 have hw:IntKind.i64.wrap (n:Int)=(n:Int):=by rw[IntKind.wrap_i64];omega
 have hnb:¬(281474976710656 < (n:Int) * (i.bytes:Int)):=by
  have:((n * i.bytes:Nat):Int)<=281474976710656:=by omega
  rw[Int.natCast_mul]at this;omega
 have hn0:¬((n:Int) < 0):=by omega
 have hzn:z.length=zz.cells.size:=by rw[<-hz4];simp
 have hlr:Af Z (Ds z (n * z.length)) (Builtin.zeroCells zz.cells n).toList:=by
  have:=JK (Z:=Z) hfl hz4 (n * z.length);rw[hzn]at this ⊢;exact this
 have hz0:n * i.size=0->(Builtin.zeroCells zz.cells n)=#[]:=by
  intro h0;apply Array.eq_empty_of_size_eq_zero
  rw[E3,hzl,h0]
 refine⟨⟨_,hlr,fun bs len cap w' hc hst hno=>?_⟩,⟨_,hlr,fun bs len cap lo hnc hbig hbig2 hfo=>?_⟩⟩
 .by_cases h0:n * i.size=0
  .rw[hz0 h0]at hst;cases bs with
   | none=>
    obtain rfl:=hno rfl;simp[Builtin.append_,run_underlying hu,run_underlying hux,sizeOf,typeInfo,hi,asInt,asIntOf,hw,hnb,hn0,hc,h0]
   | some a=>
    have hst:=hst a rfl;simp[Builtin.append_,run_underlying hu,run_underlying hux,sizeOf,typeInfo,hi,asInt,asIntOf,hw,hnb,hn0,hc,h0,hst]
  .cases bs with
   | none=>
    obtain rfl:=hno rfl;simp[Builtin.append_,run_underlying hu,run_underlying hux,sizeOf,typeInfo,zeroValue,hi,hz,asInt,asIntOf,hw,hnb,hn0,hc]
   | some a=>
    have hst:=hst a rfl;simp[Builtin.append_,run_underlying hu,run_underlying hux,sizeOf,typeInfo,zeroValue,hi,hz,asInt,asIntOf,hw,hnb,hn0,hc,h0,hst]
 .have hnc':=Jl (need:=len+n) (cap:=cap) (by omega);have h48:¬(281474976710656 < Builtin.nextslicecap (len+n) cap * i.bytes):=by
   have:=AA9 i.bytes hnc';omega
  have h63:¬(9223372036854775807 < ((len:Int)+(n:Int))):=by omega
  refine⟨grownCap W (len+n) cap e,by simp[grownCap,Question.cut],by simp only[grownCap,Question.cut];have:=ACQ (W.tape W.drawn (.appendCap (len+n) cap e)) (y:=2 ^ 63 - (len+n)) (by omega);omega,?_⟩
  by_cases h0:n * i.size=0
  .rw[hz0 h0];simp[Builtin.append_,run_underlying hu,run_underlying hux,sizeOf,typeInfo,zeroValue,hi,hz,asInt,asIntOf,hw,hnb,hn0,hnc,h63,h48,Question.forced,h0,hfo,newRow,grownCap]
  .simp[Builtin.append_,run_underlying hu,run_underlying hux,sizeOf,typeInfo,zeroValue,hi,hz,asInt,asIntOf,hw,hnb,hn0,hnc,h63,h48,Question.forced,h0,hfo,newRow,grownCap]
theorem SM(h:AH base W0 Z H W){argTypes:Array TypeId}{ty sT xT e:TypeId}{i:TypeInfo}{zz x x':Value}{n:Nat}{new:AL}(hty:argTypes.toList=[sT,xT])(hu:P.underlying sT=some (.slice e))(hss:Dj (P.underlying xT)=true)(hie:P.info? e=some i)(q2:i.zero=some zz)(hx:AF Z x x')(hsrc:Ek i.size x H=some (n,new)):MJ P Z W argTypes ty e i zz x' n new:=by
 obtain⟨d,hux,hd⟩:=Gn hss;obtain⟨hlen,hnl,new',hn1,hn2⟩:=G3 (P:=P) h hx hsrc (AAT n);rw[AAc (by omega)]at hn1;refine⟨⟨new',hn1,fun bs len cap w' hc hst hno=>Lu hty hu hux hd hie hlen hc hn2 hst hno⟩,?_⟩;obtain⟨_,_,new2,m1,m2⟩:=G3 (P:=P) (h.drawn (W.drawn+1)) hx hsrc (AAT n);rw[AAc (by omega)]at m1;exact⟨new2,m1,fun bs len cap lo hnc hbig hbig2 o2=>JP (ty:=ty) (P:=P) (W:=W) (bs:=bs) (cap:=cap) hty hu hux hd hie q2 hlen hnc hbig hbig2 m2 o2⟩
theorem Y6(h:AH base W0 Z H W){argTypes:Array TypeId}{args:AL}{args':BE}{ty:TypeId}{v:Value}{H':AA}(ha:Af Z args args'.toList)(hi:Tk P argTypes args H=some (v,H')):
 ∃μ' v' W',(Builtin.append_ argTypes ty args').run P W= .ok v' W'/\AH base W0 μ' H' W'/\AF μ' v v'/\Ah Z H μ' H':=by
 unfold Tk at hi;split at hi
 .rename_i sT xT s x hty;obtain⟨s',x',rfl,hs,hx⟩:∃s' x',args'=#[s',x']/\AF Z s s'/\AF Z x x':=by
   generalize hq:args'.toList=q at ha;cases ha with
   | cons h1 h2=>cases h2 with
    | cons h3 h4=>cases h4;exact⟨_,_,by rw[<-ABx,hq],h1,h3⟩
  split at hi
  .rename_i e hu;split at hi
   .rename_i i z hie hz;obtain⟨i2,zz,q1,q2,q3,q4⟩:=GU hz;rw[hie]at q1;cases q1
    cases hint:Ny (P.underlying xT)
    case true=>
     simp only[hint,AAO]at hi;split at hi
     .rename_i n new hsz;cases hc:(new.all Bc&&Nat.beq z.length i.size)
      .simp only[hc,AAR]at hi;cases hi
      .simp only[hc,AAO]at hi;simp only[AAQ]at hc;have hzl:=AAP hc.2;obtain⟨k,hux⟩:∃k,P.underlying xT=some (.int k):=by
        unfold Ny at hint;split at hint
        .rename_i k e;exact⟨k,e⟩
        .cases hint
       unfold qd at hsz;split at hsz
       .rename_i kx m;cases hbb:(Nat.ble (m * i.bytes) 281474976710656&&Nat.ble m 9223372036854775807)
        .simp[hbb]at hsz
        .simp only[hbb,AAO,AAN,AAm]at hsz;obtain⟨rfl,rfl⟩:=hsz;simp only[AAQ]at hbb;cases hx
         have hzsz:zz.cells.size=i.size:=by rw[<-hzl,<-q4];simp
         exact HK (e:=e) h hs (rN q4 q3 hty hu hux hie q2 hzsz (VC hbb.1) (VC hbb.2)) hzsz (by simp[Ds,hzl]) hc.1 hi
       .cases hsz
     .cases hi
    case false=>
    simp only[hint,AAR]at hi;split at hi
    .rename_i n new hsrc;cases hc:(Dj (P.underlying xT)&&new.all Bc&&Nat.beq z.length i.size)
     .simp only[hc,AAR]at hi;cases hi
     simp only[hc,AAO]at hi;simp only[AAQ]at hc;obtain⟨⟨hss,hok⟩,hzl⟩:=hc;obtain⟨d,hux,hd⟩:=Gn hss;have hzl:=AAP hzl;have hzsz:zz.cells.size=i.size:=by rw[<-hzl,<-q4];simp
     obtain⟨hlen,hnl,new',hn1,hn2⟩:=G3 (P:=P) h hx hsrc (AAT n);rw[AAc (by omega)]at hn1;exact HK (e:=e) h hs (SM h hty hu hss hie q2 hx hsrc) hzsz hnl hok hi
    .cases hi
   .cases hi
  .cases hi
 .cases hi
end
section
variable {P:Program}{base:Env}{W0:World}{Z:AW}{H:AA}{W:World}
def fY(P:Program)(argTypes:Array TypeId)(args:AL)(H:AA):Option (Value × AA):=
 match argTypes.toList,args with
 | dT::_,[.slice a dLen _,src]=>
  match P.underlying dT with
  | some (.slice e)=>
   match D6 P e with
   | some sz=>
    match Ek sz src H with
    | some (n,l)=>
     let m:=Nat.min n dLen
     let new:=l.take (m * sz)
     bif Nat.beq (m * sz) 0 then some (.int .i64 (Int.ofNat m),H)else
     match a with
     | some ⟨b,off,none⟩=>
      match H.get b with
      | some (.cells cs e false)=>
       bif new.all Bc&&Nat.ble (off+new.length) cs.length then some (.int .i64 (Int.ofNat m),H.put b (.cells (Be cs off new) e false))else none
      | _=>none
     | _=>none
    | none=>none
   | none=>none
  | _=>none
 | _,_=>none
theorem Vh{args:AL}{args':BE}{s x:Value}(ha:Af Z args args'.toList)(he:args=[s,x]):∃s' x',args'=#[s',x']/\AF Z s s'/\AF Z x x':=by
 subst he;generalize hq:args'.toList=q at ha;cases ha with
 | cons h1 h2=>cases h2 with
  | cons h3 h4=>cases h4;exact⟨_,_,by rw[<-ABx,hq],h1,h3⟩
theorem aO{args:AL}{args':BE}{s:Value}(ha:Af Z args args'.toList)(he:args=[s]):∃s',args'=#[s']/\AF Z s s':=by
 subst he;generalize hq:args'.toList=q at ha;cases ha with
 | cons h1 h2=>cases h2;exact⟨_,by rw[<-ABx,hq],h1⟩
theorem iS(h:AH base W0 Z H W){argTypes:Array TypeId}{args:AL}{args':BE}{ty:TypeId}{v:Value}{H':AA}(ha:Af Z args args'.toList)(hi:fY P argTypes args H=some (v,H')):
 ∃v' W',(Builtin.copy_ argTypes ty args').run P W= .ok v' W'/\AH base W0 Z H' W'/\AF Z v v'/\Ah Z H Z H':=by
 unfold fY at hi;split at hi
 .rename_i dT rest a dLen dCap src hty;obtain⟨s',x',rfl,hs,hx⟩:=Vh ha rfl;have ht0:argTypes[0]? = some dT:=by rw[<-AAx,hty];rfl
  split at hi
  .rename_i e hu;split at hi
   .rename_i sz hsz;split at hi
    .rename_i n l hsrc;obtain⟨hlen,hll,l',r1,r2⟩:=G3 (P:=P) h hx hsrc (Nat.min_le_left n dLen);have hml:Nat.min n dLen * sz<=n * sz:=AA9 _ (Nat.min_le_left _ _);have htl:(l.take (Nat.min n dLen * sz)).length=Nat.min n dLen * sz:=by rw[AAh];omega
     cases hz:Nat.beq (Nat.min n dLen * sz) 0
     .simp only[hz,AAR]at hi;split at hi
      .rename_i b off;cases hs with
       | slice _ _ _ _ cap' o' T hm hcr ho=>
        split at hi
        .rename_i cs ee hget;cases hbb:((l.take (Nat.min n dLen * sz)).all Bc&&Nat.ble (off+(l.take (Nat.min n dLen * sz)).length) cs.length)
         .rw[hbb]at hi;cases hi
         .rw[hbb]at hi;simp only[AAO,AAN,AAm]at hi;obtain⟨rfl,rfl⟩:=hi;simp only[AAQ]at hbb;have b2:=VC hbb.2;have hnz:Nat.min n dLen * sz≠0:=by intro e1;rw[e1]at hz;cases hz
          have hoo:o'=T.d+off:=by
           rcases ho with ho | ⟨h1,_⟩
           .exact ho
           .subst h1;exact absurd (by simp) hnz
          subst hoo;obtain⟨W',w1,w2,w3⟩:=AH.T8 P hm _ l' H W cs off 0 h hget r1 hbb.1 (by omega);refine⟨_,W',?_,w2,.int _ _,w3⟩;simp only[Builtin.copy_,ht0,ADJ,ABg,ABK,Sem.run_bind,run_underlying hu,Result.andThen_ok,hlen,BZ hsz,r2,w1,Sem.run_pure,goInt];rfl
        .cases hi
      .cases hi
     .simp only[hz,AAO,AAN,AAm]at hi;obtain⟨rfl,rfl⟩:=hi;have hz:=AAP hz;have hl0:l'=[]:=by
       have:=r1.length;rw[htl,hz]at this;exact AAp this.symm
      subst hl0;refine⟨.int .i64 (Int.ofNat (Nat.min n dLen)),W,?_,h,.int _ _,Ah.refl _ _⟩;cases hs with
      | Cc=>simp[Builtin.copy_,ht0,run_underlying hu,hlen,BZ hsz,r2,goInt]
      | Dz _ _ _ _ a=>
       rw[Nat.min_zero]at r2;cases a<;>simp[storeCells,Builtin.copy_,ht0,run_underlying hu,hlen,BZ hsz,r2,goInt]
      | Bd=>simp[Builtin.copy_,ht0,run_underlying hu,hlen,BZ hsz,r2,goInt,storeCells]
      | GI _ _ _ _ a=>
       rw[Nat.min_zero]at r2;cases a<;>simp[storeCells,Builtin.copy_,ht0,run_underlying hu,hlen,BZ hsz,r2,goInt]
      | C9=>simp[Builtin.copy_,ht0,run_underlying hu,hlen,BZ hsz,r2,goInt,storeCells]
      | slice=>simp[Builtin.copy_,ht0,run_underlying hu,hlen,BZ hsz,r2,goInt,storeCells]
    .cases hi
   .cases hi
  .cases hi
 .cases hi
def MA(P:Program)(argTypes:Array TypeId)(args:AL)(H:AA):Option (Value × AA):=
 match argTypes.toList,args with
 | t::_,[.slice a n _]=>
  match P.underlying t with
  | some (.slice e)=>
   bif Nat.beq n 0 then some (Go.undef,H)else
   match Is P e,a with
   | some z,some ⟨b,off,none⟩=>
    match H.get b with
    | some (.cells cs e false)=>
     let new:=Ds z (n * z.length)
     bif new.all Bc&&Nat.ble (off+new.length) cs.length then some (Go.undef,H.put b (.cells (Be cs off new) e false))else none
    | _=>none
   | _,_=>none
  | _=>none
 | _,_=>none
theorem Nr(h:AH base W0 Z H W){argTypes:Array TypeId}{args:AL}{args':BE}{ty:TypeId}{v:Value}{H':AA}(ha:Af Z args args'.toList)(hi:MA P argTypes args H=some (v,H')):
 ∃v' W',(Builtin.clear_ argTypes ty args').run P W= .ok v' W'/\AH base W0 Z H' W'/\AF Z v v'/\Ah Z H Z H':=by
 unfold MA at hi;split at hi
 .rename_i t rest a n cap hty;obtain⟨s',rfl,hs⟩:=aO ha rfl;have ht0:argTypes[0]? = some t:=by rw[<-AAx,hty];rfl
  split at hi
  .rename_i e hu;cases hz:Nat.beq n 0
   .simp only[hz,AAR]at hi;have hn0:n≠0:=by intro e1;rw[e1]at hz;cases hz
    split at hi
    .rename_i z b off hzl;obtain⟨zz,q1,q2,q3⟩:=IF hzl W;cases hs with
     | slice _ _ _ _ cap' o' T hm hcr ho=>
      split at hi
      .rename_i cs ee hget;cases hbb:((Ds z (n * z.length)).all Bc&&Nat.ble (off+(Ds z (n * z.length)).length) cs.length)
       .simp only[hbb,AAR]at hi;cases hi
       .simp only[hbb,AAO,AAN,AAm]at hi;obtain⟨rfl,rfl⟩:=hi;simp only[AAQ]at hbb;have b2:=VC hbb.2;have hoo:o'=T.d+off:=by
         rcases ho with ho | ⟨h1,_⟩
         .exact ho
         .exact absurd h1 hn0
        subst hoo;have hl:=JK (Z:=Z) q2 q3 (n * z.length);obtain⟨W',w1,w2,w3⟩:=AH.T8 P hm _ _ H W cs off 0 h hget hl hbb.1 (by omega);refine⟨_,W',?_,w2,AF.undef Z,w3⟩;have hzc:(Builtin.zeroCells zz.cells n).toList=((Array.range (n * z.length)).map (zz.cells[· % zz.cells.size]!)).toList:=by
         have:zz.cells.size=z.length:=by rw[<-q3];simp
         simp only[Builtin.zeroCells,this]
        obtain⟨k,rfl⟩:∃k,n=k+1:=⟨n - 1,by omega⟩
        simp only[Builtin.clear_,ht0,ADJ,ABg,Sem.run_bind,run_underlying hu,Result.andThen_ok,q1,hzc,w1,Sem.run_pure];rfl
      .cases hi
    .cases hi
   .simp only[hz,AAO,AAN,AAm]at hi;obtain⟨rfl,rfl⟩:=hi;have hz:=AAP hz;subst hz;refine⟨_,W,?_,h,AF.undef Z,Ah.refl _ _⟩;cases hs with
    | Dz _ _ _ _ a=>cases a<;>simp[Builtin.clear_,ht0,run_underlying hu]<;>rfl
    | GI _ _ _ _ a=>cases a<;>simp[Builtin.clear_,ht0,run_underlying hu]<;>rfl
    | _=>simp[Builtin.clear_,ht0,run_underlying hu]<;>rfl
  .cases hi
 .cases hi
def tY(P:Program)(t:TypeId)(x:Value):DJ:=
 match P.underlying t,x with
 | some .string,.string s=>some (.int .i64 (Int.ofNat s.size))
 | some (.array n _),_=>some (.int .i64 (Int.ofNat n))
 | some (.slice _),.slice _ n _=>some (.int .i64 (Int.ofNat n))
 | _,_=>none
theorem pj{argTypes:Array TypeId}{t ty:TypeId}{x x' v:Value}(hx:AF Z x x')(ht:argTypes[0]? = some t)(hi:tY P t x=some v):
 (Builtin.len_ argTypes ty #[x']).run P W= .ok v W/\∃n,v= .int .i64 n:=by
 unfold tY at hi;split at hi
 .rename_i s hu;cases hx;cases hi;exact⟨by simp[Builtin.len_,ht,run_underlying hu,goInt],_,rfl⟩
 .rename_i n e hu;cases hi;exact⟨by simp[Builtin.len_,ht,run_underlying hu,goInt],_,rfl⟩
 .rename_i a n c hu;cases hi
  cases hx<;>exact⟨by simp[Builtin.len_,ht,run_underlying hu,goInt],_,rfl⟩
 .cases hi
def Jm(P:Program)(s:TypeId)(x:Value)(k:Nat):DJ:=
 match P.underlying s,x with
 | some (.struct fields),.pointer (some ⟨b,off,none⟩)=>
  match fields.toList[k]? with
  | some f=>match D6 P f.type with
   | some n=>bif Nat.beq n 0 then none else some (.pointer (some ⟨b,off+f.offset,none⟩))
   | none=>none
  | none=>none
 | _,_=>none
theorem Ls{s:TypeId}{x x' v:Value}{k:Nat}(hx:AF Z x x')(hi:Jm P s x k=some v):∃v',(Instr.fieldAt s x' k).run P W= .ok v' W/\AF Z v v':=by
 unfold Jm at hi;split at hi
 .rename_i fields b off hu;cases hx with
  | ptr _ _ T hm=>
   split at hi
   .rename_i f hf;split at hi
    .rename_i n hn;cases hz:Nat.beq n 0
     .simp only[hz,AAR,AAN]at hi;subst hi;have hnz:¬n=0:=by intro e1;rw[e1]at hz;cases hz
      have hf':fields[k]? = some f:=by rw[<-AAx];exact hf
      refine⟨_,?_,AF.ptr b (off+f.offset) T hm⟩;simp[Instr.fieldAt,run_underlying hu,hf',Instr.sureAddr,fieldPlace,BZ hn,hnz,add_eq,Nat.add_assoc]
     .simp[hz]at hi
    .cases hi
   .cases hi
 .cases hi
def OK:Value->Option Nat
 | .int _ (.ofNat k)=>some k
 | _=>none
def Gm(P:Program)(t:TypeId)(x ix:Value):DJ:=
 match OK ix,P.underlying t,x with
 | some k,some (.array n e),.pointer (some ⟨b,off,none⟩)=>
  match D6 P e with
  | some sz=>bif Nat.blt k n then some (.pointer (some ⟨b,off+k * sz,none⟩))else none
  | none=>none
 | some k,some (.slice e),.slice (some ⟨b,off,none⟩) n _=>
  match D6 P e with
  | some sz=>bif Nat.blt k n then some (.pointer (some ⟨b,off+k * sz,none⟩))else none
  | none=>none
 | _,_,_=>none
theorem M7{v:Value}{k:Nat}(h:OK v=some k):∃kd,v= .int kd (Int.ofNat k):=by
 unfold OK at h;split at h
 .cases h;exact⟨_,rfl⟩
 .cases h
theorem Gy{t:TypeId}{x x' ix ix' v:Value}(hx:AF Z x x')(hix:AF Z ix ix')(hi:Gm P t x ix=some v):∃v',(Instr.indexAt t x' ix').run P W= .ok v' W/\AF Z v v':=by
 unfold Gm at hi;split at hi
 .rename_i k n e b off hk hu;obtain⟨kd,rfl⟩:=M7 hk;cases hix
  cases hx with
  | ptr _ _ T hm=>
   split at hi
   .rename_i sz hsz;cases hlt:Nat.blt k n
    .simp[hlt]at hi
    .simp only[hlt,AAO,AAN]at hi;subst hi;have hlt:k < n:=VC hlt;refine⟨_,?_,AF.ptr b (off+k * sz) T hm⟩;have hc:(0:Int)<=Int.ofNat k/\Int.ofNat k < (n:Int):=⟨by simp,by have:=Int.ofNat_lt.2 hlt;simpa using this⟩;simp only[Instr.indexAt,asIntOf,Sem.run_bind,Sem.run_pure,Result.andThen_ok,run_underlying hu,Instr.sureAddr,AAZ hc,BZ hsz,add_eq];simp[Nat.add_assoc]
   .cases hi
 .rename_i k e b off n c hk hu;obtain⟨kd,rfl⟩:=M7 hk;cases hix
  cases hx with
  | slice _ _ _ _ cap' o' T hm hcr ho=>
   split at hi
   .rename_i sz hsz;cases hlt:Nat.blt k n
    .simp[hlt]at hi
    .simp only[hlt,AAO,AAN]at hi;subst hi;have hlt:k < n:=VC hlt;have hoo:o'=T.d+off:=by
      rcases ho with ho | ⟨h1,_⟩
      .exact ho
      .omega
     subst hoo;refine⟨_,?_,AF.ptr b (off+k * sz) T hm⟩;have hc:(0:Int)<=Int.ofNat k/\Int.ofNat k < (n:Int):=⟨by simp,by have:=Int.ofNat_lt.2 hlt;simpa using this⟩;simp only[Instr.indexAt,asIntOf,Sem.run_bind,Sem.run_pure,Result.andThen_ok,run_underlying hu,AAZ hc,BZ hsz,add_eq];simp[Nat.add_assoc]
   .cases hi
 .cases hi
def Vq(P:Program)(t:TypeId)(cs:AL)(off:Nat):DJ:=
 match P.underlying t,D6 P t with
 | some d,some n=>
  bif Ej d then some (.agg ⟨(cs.drop off).take n⟩)else cs[off]?
 | _,_=>none
theorem VM{t:TypeId}{cs:AL}{cs':BE}{off:Nat}{v:Value}(hc:Af Z cs cs'.toList)(hi:Vq P t cs off=some v):∃v',(part t cs' off).run P W= .ok v' W/\AF Z v v':=by
 unfold Vq at hi;split at hi
 .rename_i d n hd hn;cases hagg:Ej d
  .simp only[hagg,AAR]at hi;obtain⟨v',h1,h2⟩:=hc.get? hi;refine⟨v',?_,h2⟩;rw[AAx]at h1;simp[part,Jc hd,hagg,h1]
  .simp only[hagg,AAO,AAN]at hi;subst hi;refine⟨.agg (cs'.extract off (off+n)),?_,AF.Cr.2 ⟨_,rfl,?_⟩⟩
   .simp[part,Jc hd,hagg,BZ hn]
   .rw[ADM,AC3];have:off+n - off=n:=by omega
    rw[this];exact(hc.drop off).take n
 .cases hi
def X8(P:Program)(t:TypeId)(x:Value)(k:Nat):DJ:=
 match P.underlying t,x with
 | some (.struct fields),.agg cs=>match fields.toList[k]? with
  | some f=>Vq P f.type cs.toList f.offset
  | none=>none
 | _,_=>none
theorem bT{t:TypeId}{x x' v:Value}{k:Nat}(hx:AF Z x x')(hi:X8 P t x k=some v):∃v',(Instr.field t x' k).run P W= .ok v' W/\AF Z v v':=by
 unfold X8 at hi;split at hi
 .rename_i fields cs hu;obtain⟨cs',rfl,hl⟩:=AF.Cr.1 hx;split at hi
  .rename_i f hf;have hf':fields[k]? = some f:=by rw[<-AAx];exact hf
   obtain⟨v',h1,h2⟩:=VM (P:=P) (W:=W) hl hi;refine⟨v',?_,h2⟩;simp[Instr.field,run_underlying hu,hf',asAgg,h1]
  .cases hi
 .cases hi
def QL(P:Program)(t:TypeId)(x ix:Value):DJ:=
 match OK ix,P.underlying t,x with
 | some k,some (.array n e),.agg cs=>
  match D6 P e with
  | some sz=>bif Nat.blt k n then Vq P e cs.toList (k * sz)else none
  | none=>none
 | some k,some .string,.string s=>
  match s.data.toList[k]? with
  | some b=>some (.int .u8 b.toNat)
  | none=>none
 | _,_,_=>none
theorem N5{t:TypeId}{x x' ix ix' v:Value}(hx:AF Z x x')(hix:AF Z ix ix')(hi:QL P t x ix=some v):∃v',(Instr.index t x' ix').run P W= .ok v' W/\AF Z v v':=by
 unfold QL at hi;split at hi
 .rename_i k n e cs hk hu;obtain⟨kd,rfl⟩:=M7 hk;cases hix
  obtain⟨cs',rfl,hl⟩:=AF.Cr.1 hx;split at hi
  .rename_i sz hsz;cases hlt:Nat.blt k n
   .simp[hlt]at hi
   .simp only[hlt,AAO]at hi;have hlt:k < n:=VC hlt;obtain⟨v',h1,h2⟩:=VM (P:=P) (W:=W) hl hi;refine⟨v',?_,h2⟩;have hc:(0:Int)<=Int.ofNat k/\Int.ofNat k < (n:Int):=⟨by simp,by have:=Int.ofNat_lt.2 hlt;simpa using this⟩;simp only[Instr.index,asIntOf,Sem.run_bind,Sem.run_pure,Result.andThen_ok,run_underlying hu,AAZ hc,BZ hsz];exact h1
  .cases hi
 .rename_i k s hk hu;obtain⟨kd,rfl⟩:=M7 hk;cases hix;cases hx
  split at hi
  .rename_i b hb;cases hi
   refine⟨_,?_,.int _ _⟩;rw[AAx]at hb;have hlt:k < s.size:=by
    have:=(Array.getElem?_eq_some_iff.1 hb).1;exact this
   have hb':s[k]? = some b:=by
    rw[getElem?_pos s k hlt];have:=(Array.getElem?_eq_some_iff.1 hb).2;rw[<-this];rfl
   simp[Instr.index,asIntOf,run_underlying hu,hb']
  .cases hi
 .cases hi
end
section
variable {P:Program}{base:Env}{W0:World}{Z:AW}{H:AA}{W:World}
def PS:Value->Option Int
 | .int .u8 n=>some n
 | _=>none
def G8:AL->Option (Au)
 | []=>some []
 | v::r=>match PS v,G8 r with
  | some n,some l=>some (n::l)
  | _,_=>none
theorem Of:∀(l:AL)(ns:Au),G8 l=some ns->l=ns.map (Value.int .u8)
 | [],ns,h=>by simp[G8]at h;subst h;rfl
 | v::r,ns,h=>by
  simp only[G8]at h;cases hv:PS v with
  | none=>simp[hv]at h
  | some n=>
   cases hr:G8 r with
   | none=>simp[hv,hr]at h
   | some l=>
    simp only[hv,hr,AAN]at h;subst h;have:v= .int .u8 n:=by
     unfold PS at hv;split at hv
     .cases hv;rfl
     .cases hv
    rw[this,Of r l hr];rfl
theorem VK:∀(ns:Au)(l':AL),Af Z (ns.map (Value.int .u8)) l'->l'=ns.map (Value.int .u8)
 | [],l',h=>by cases h;rfl
 | n::ns,l',h=>by
  simp only[AAn]at h ⊢;cases h with
  | cons hv ht=>cases hv;rw[VK ns _ ht]
theorem foldl_push:∀(ns:Au)(r:Ag),ns.foldl (fun r n=>r.push (UInt8.ofNat n.toNat)) r=⟨⟨r.data.toList++ns.map fun n=>UInt8.ofNat n.toNat⟩⟩
 | [],r=>by simp
 | n::ns,r=>by
  rw[ACw,foldl_push ns];simp[ByteArray.push,Array.push]
def JF(P:Program)(src dst:TypeId)(x:Value)(H:AA):Option (Value × AA):=
 match P.underlying src,P.underlying dst,x with
 | some (.slice e),some .string,.slice a n c=>
  match P.underlying e with
  | some (.int .u8)=>
   match a with
   | none=>some (.string ⟨⟨[]⟩⟩,H)
   | some _=>
    match Ek 1 (.slice a n c) H with
    | some (_,l)=>match G8 l with
     | some ns=>some (.string ⟨⟨ns.map fun n=>UInt8.ofNat n.toNat⟩⟩,H)
     | none=>none
    | none=>none
  | _=>none
 | some .string,some (.slice e),.string s=>
  match P.underlying e with
  | some (.int .u8)=>some (.slice (some ⟨H.next,0,none⟩) s.size (AT+s.size),H.alloc (.cells (s.data.toList.map fun b=> .int .u8 b.toNat) 1 false))
  | _=>none
 | _,_,_=>none
def FO(s:Ag)(cap:Nat):BE:=(s.data.map fun b=>Value.int .u8 b.toNat)++Array.replicate (cap - s.size) (Value.int .u8 0)
theorem I1{s:Ag}{cap:Nat}(h:s.size<=cap):(FO s cap).size=cap:=by
 have:s.data.size=s.size:=rfl;simp[FO];omega
theorem KH(h:AH base W0 Z H W){src dst:TypeId}{x x' v:Value}{H':AA}(hx:AF Z x x')(hi:JF P src dst x H=some (v,H')):
 ∃μ' v' W',(convert src dst x').run P W= .ok v' W'/\AH base W0 μ' H' W'/\AF μ' v v'/\Ah Z H μ' H':=by
 unfold JF at hi;split at hi
 .rename_i e a n c hu1 hu2;split at hi
  .rename_i hue;split at hi
   .cases hi
    cases hx
    refine⟨Z,_,W,?_,h,.string _,Ah.refl _ _⟩;simp[convert,run_underlying hu1,run_underlying hu2,run_underlying hue,Conv.bytesToString];rfl
   .rename_i a0;split at hi
    .rename_i m l hs;split at hi
     .rename_i ns OP;cases hi
      have hl:=Of l ns OP;obtain⟨hlen,hll,l',r1,r2⟩:=G3 (P:=P) h hx hs (AAT m);rw[AAc (by omega),hl]at r1;have hl':=VK ns l' r1;subst hl';cases hx with
      | Bd=>simp[Ek]at hs
      | Dz=>simp[Ek]at hs
      | C9=>simp[Ek]at hs
      | GI=>simp[Ek]at hs
      | slice b o _ _ cap' o' T hm hcr ho=>
       have hmn:n=m:=by simpa [Builtin.lenOf] using hlen
       subst hmn;simp only[Builtin.firstCells,ACN]at r2;refine⟨Z,_,W,?_,h,.string _,Ah.refl _ _⟩;have:=run_bytesToString (P:=P) W ⟨T.c,o',none⟩ n cap' ns r2;rw[foldl_push]at this;simp[convert,run_underlying hu1,run_underlying hu2,run_underlying hue,this]
     .cases hi
    .cases hi
  .cases hi
 .rename_i e s hu1 hu2;split at hi
  .rename_i hue;cases hi
   cases hx
   have hcut:∃cap,s.size<=cap/\(convert src dst (.string s)).run P W= .ok (.slice (some ⟨W.heap.size,0,none⟩) s.size cap)
    (W.drew.alloc (.cells (FO s cap) e (cap,cap+1))):=by
    refine⟨(Question.appendCap s.size 0 e).cut (W.tape W.drawn (.appendCap s.size 0 e)),by simp[Question.cut],?_⟩;generalize hq:(Question.appendCap s.size 0 e).cut (W.tape W.drawn (.appendCap s.size 0 e))=cap;have hge:s.size<=cap:=by rw[<-hq];simp[Question.cut]
    have hsize:=I1 hge;have hf:Question.forced (.appendCap s.size 0 e)=false:=rfl;have hsh:(W.drew.alloc (.cells (FO s cap) e)).shape? W.heap.size=some (e,cap):=by
     unfold World.shape?;have:(W.drew.alloc (.cells (FO s cap) e)).heap[W.heap.size]? = some (.cells (FO s cap) e):=by
      show(W.heap.push _)[W.heap.size]? = _;simp
     rw[this];simp only[hsize]
    have hfr:(W.drew.alloc (.cells (FO s cap) e)).freeze { block:=W.heap.size,off:=cap } 1=
     W.drew.alloc (.cells (FO s cap) e (cap,cap+1)):=by
     unfold World.freeze;rw[AAW (by decide)];show World.mk ((W.heap.push _).modify W.heap.size _) _ _ _ _=World.mk (W.heap.push _) _ _ _ _
     congr 1
     apply Array.ext_getElem?
     intro j;rw[AB2,ACU,ACU]
     by_cases hj:W.heap.size=j
     .subst hj;simp
     .simp[hj,Ne.symm hj]
    simp only[convert,run_underlying hu1,run_underlying hu2,run_underlying hue,Sem.run_bind,Result.andThen_ok,Conv.stringToBytes,run_choose,hf,hq,newRow,run_newObj,Sem.run_pure,markStringish,run_shape,Bool.false_eq_true,ACv,World.drew_eq,World.alloc_eq];rw[show(W.drew.heap.size)=W.heap.size from rfl];have hsh':=hsh;unfold FO at hsh' hfr;rw[hsh'];simp only[run_freeze,Result.andThen_ok];rw[hfr];rfl
   obtain⟨cap,hge,hrun⟩:=hcut;have hal:=(h.drawn (W.drawn+1)).alloc (T:=⟨W.heap.size,0,cap,1⟩) (o:= .cells (s.data.toList.map fun b=> .int .u8 b.toNat) 1 false) (o':= .cells (FO s cap) e (cap,cap+1)) rfl ?_
   .exact⟨_,_,_,hrun,hal.1,E5 _ _ rfl _ _ _ (.inr ⟨by omega,by omega,hge,by show 0+cap * 1<=cap;omega,.inl rfl⟩),hal.2⟩
   .have hsz:s.data.size=s.size:=rfl;refine .cells ⟨W.heap.size,0,cap,1⟩ _ _ false _ e cap (cap+1) rfl ?_ ?_ ?_
    .simp only[FO,AA5,ABW,ABb,ABI,AAy];rw[AA0 (by simp),AAc (by simp)];exact Af.map _ _ _ fun b _=> .int _ _
    .rw[I1 hge];show cap=0+cap;omega
    .intro _ j hj;rw[I1 hge]at hj;omega
  .cases hi
 .cases hi
def YH(P:Program)(t:TypeId)(x:Value)(H:AA):Option (Value × AA):=
 match P.underlying t,x with
 | some .string,.string s=>some (.pointer (some ⟨H.next,0,none⟩),H.alloc (.Cv s 0))
 | _,_=>none
theorem bV(h:AH base W0 Z H W){t:TypeId}{x x' v:Value}{H':AA}(hx:AF Z x x')(hi:YH P t x H=some (v,H')):
 ∃μ' v' W',(Instr.range t x').run P W= .ok v' W'/\AH base W0 μ' H' W'/\AF μ' v v'/\Ah Z H μ' H':=by
 unfold YH at hi;split at hi
 .rename_i s hu;cases hi;cases hx
  have hal:=h.alloc (T:=⟨W.heap.size,0,0,0⟩) (o:= .Cv s 0) (o':= .stringIter s 0) rfl (.Cv _ s 0 rfl);exact⟨_,_,_,by simp[Instr.range,run_underlying hu],hal.1,Mn ⟨W.heap.size,0,0,0⟩ _ rfl,hal.2⟩
 .cases hi
def Zt(it:Value)(isString:Bool)(H:AA):Option (Value × AA):=
 match it,isString with
 | .pointer (some ⟨r,0,none⟩),true=>
  match H.get r with
  | some (.Cv s pos)=>
   bif Nat.blt pos s.size then
    match Utf8.decode s pos with
    | (c,width)=>some (.tuple ⟨[.bool true,.int .i64 (Int.ofNat pos),.int .i32 c]⟩,H.put r (.Cv s (pos+width)))
   else some (.tuple ⟨[.bool false]⟩,H)
  | _=>none
 | _,_=>none
theorem Kd{w:World}{r:Nat}{o:Obj}(h:w.heap[r]? = some o)(hn:∀c t f,o≠ .cells c t f):(getObj r).run P w= .ok o w:=by
 cases o with
 | cells c t f=>exact absurd rfl (hn c t f)
 | _=>simp only[getObj,Sem.run,h]
theorem HF{w:World}{r:Nat}{o o1:Obj}(h:w.heap[r]? = some o)(hn:∀c t f,o≠ .cells c t f):(setObj r o1).run P w= .ok () { w with heap:=w.heap.setIfInBounds r o1 }:=by
 cases o with
 | cells c t f=>exact absurd rfl (hn c t f)
 | _=>simp only[setObj,Sem.run,h]
theorem AH.setObj(h:AH base W0 Z H W){b:Nat}{T:BQ}{o o1:AJ}{o1':Obj}(hb:H.get b=some o)(hro:o.ro=false)(hm:Z b=some T)(ho:Cb Z T o1 o1')(hna1:o1.isAbs=false:=by rfl)(hsol:¬o.void T:=by exact id):
 AH base W0 Z (H.put b o1) { W with heap:=W.heap.setIfInBounds T.c o1' }/\Ah Z H Z (H.put b o1):=by
 have hlt:=h.bound b T hm;refine h.update hb hro hm (by simp) (fun i hi=>?_) ?_ ho rfl rfl hna1 hsol
 .rw[ABM,AAW (ABB hi)]
 .rw[ABM];simp[hlt]
theorem Wx(h:AH base W0 Z H W){it it' v:Value}{isString:Bool}{ty:TypeId}{H':AA}(hx:AF Z it it')(hi:Zt it isString H=some (v,H')):
 ∃v' W',(Instr.next it' isString ty).run P W= .ok v' W'/\AH base W0 Z H' W'/\AF Z v v'/\Ah Z H Z H':=by
 unfold Zt at hi;split at hi
 .rename_i r;cases hx with
  | ptr _ _ T hm=>
   split at hi
   .rename_i s pos hget;obtain⟨o',ho',hor⟩:=h.obj r _ hget T hm;cases hor with
    | Cv _ _ hd0=>
     have hg:=Kd (P:=P) ho' (by intro c t f;simp);rw[hd0];cases hlt:Nat.blt pos s.size
     .simp only[hlt,AAR,AAN,AAm]at hi;obtain⟨rfl,rfl⟩:=hi;have hnl:¬pos < s.size:=fun hh=>by rw[show Nat.blt pos s.size=true from AAS hh]at hlt;cases hlt
      exact⟨_,W,by simp[Instr.next,hg,hnl],h,AF.CM.2 ⟨_,rfl,.cons (.bool _) .nil⟩,Ah.refl _ _⟩
     .simp only[hlt,AAO,AAN,AAm]at hi;obtain⟨rfl,rfl⟩:=hi;have hlt:pos < s.size:=VC hlt;obtain⟨g1,g2⟩:=h.setObj (o1:= .Cv s (pos+(Utf8.decode s pos).2)) (o1':= .stringIter s (pos+(Utf8.decode s pos).2)) hget rfl hm (.Cv _ _ _ hd0);refine⟨.tuple #[.bool true,goInt pos,.int .i32 (Utf8.decode s pos).1],_,?_,g1,AF.CM.2 ⟨_,rfl,.cons (.bool _) (.cons (.int _ _) (.cons (.int _ _) .nil))⟩,g2⟩;simp[Instr.next,hg,hlt,HF (P:=P) (o1:= .stringIter s (pos+(Utf8.decode s pos).2)) ho' (by intro c t f;simp)]
   .cases hi
 .cases hi
def Bl:Value->Option TypeDesc->Option Bool
 | .pointer a,some (.pointer _)=>some a.isNone
 | .slice none _ _,some (.slice _)=>some true
 | .slice (some ⟨_,_,none⟩) _ _,some (.slice _)=>some false
 | .map a,some (.map _ _)=>some a.isNone
 | .nilFunc,some (.func _ _ _)=>some true
 | .func _ _ _,some (.func _ _ _)=>some false
 | .nilIface,some (.interface _)=>some true
 | .iface _ _,some (.interface _)=>some false
 | _,_=>none
def Gd:Value->Value->Bool
 | .nilIface,.nilIface=>true
 | _,_=>false
def IT(P:Program)(op:BinOp)(t:TypeId)(x y:Value):DJ:=
 bif Gd x y then none else
 match Bl x (P.underlying t),Bl y (P.underlying t)with
 | some a,some b=>
  bif a||b then
   match op with
   | .eql=>some (.bool (a&&b))
   | .neq=>some (.bool (!(a&&b)))
   | _=>none
  else none
 | _,_=>none
theorem ON{x x':Value}{d:Option TypeDesc}{b:Bool}(hx:AF Z x x')(h:Bl x d=some b):Bl x' d=some b:=by
 cases d with
 | none=>simp[Bl]at h
 | some d=>cases d<;>cases hx<;>first | exact h | (simp[Bl,Bo]at h;done) | (simpa [Bl] using h)
theorem YV{x x' y y':Value}{d:Option TypeDesc}{a b:Bool}(hx:AF Z x x')(hy:AF Z y y')(ha:Bl x d=some a)(hb:Bl y d=some b)(h:Gd x y=false):Gd x' y'=false:=by
 cases hx<;>first | rfl | (simp[Bl,Bo]at ha;done) | skip
 cases hy<;>first | rfl | (simp[Bl,Bo]at hb;done) | cases h
theorem eC{t:TypeId}{d:TypeDesc}{x y:Value}{a b:Bool}(hu:P.underlying t=some d)(ha:Bl x (some d)=some a)(hb:Bl y (some d)=some b)(hab:(a||b)=true)(w:World):
 (Op.equal t x y).run P w= .ok (a&&b) w:=by
 obtain⟨k0,hd⟩:∃k0,Op.maxDepth=k0+1:=⟨9999,rfl⟩
 unfold Op.equal;rw[hd];clear hd;cases d<;>cases x<;>simp[Bl]at ha<;>cases y<;>simp[Bl]at hb
 .rename_i e p q;subst ha;subst hb
  cases p<;>cases q<;>simp at hab<;>simp[Op.equalIn,run_underlying hu]
 .rename_i e p _ _ q _ _;rcases p with _ | ⟨_,_,_ | _⟩<;>rcases q with _ | ⟨_,_,_ | _⟩<;>simp at ha hb<;>subst ha<;>subst hb<;>simp at hab<;>simp[Op.equalIn,run_underlying hu]
 .rename_i k e p q;subst ha;subst hb
  cases p<;>cases q<;>simp at hab<;>simp[Op.equalIn,run_underlying hu]
 all_goals (subst ha;subst hb;first | (simp at hab;done) | simp[Op.equalIn,run_underlying hu])
theorem Nd{op:BinOp}{t:TypeId}{x y:Operand}{a b v:Value}(hi:IT P op t a b=some v)(w:World):
 (do eqGuard op t x y a b;binOp op t a b:Sem Value).run P w= .ok v w:=by
 unfold IT at hi;cases h2:Gd a b
 case true=>rw[h2]at hi;cases hi
 rw[h2,AAR]at hi;cases hu:P.underlying t with
 | none=>simp[hu,Bl]at hi
 | some d=>
  rw[hu]at hi;cases ha:Bl a (some d)with
  | none=>simp[ha]at hi
  | some p=>
   cases hb:Bl b (some d)with
   | none=>simp[ha,hb]at hi
   | some q=>
    simp only[ha,hb]at hi;cases hpq:(p||q)
    .simp[hpq]at hi
    .simp only[hpq,AAO]at hi;have he:=eC hu ha hb hpq w;have hg:eqGuard op t x y a b=pure ():=by
      cases d<;>cases a<;>simp[Bl]at ha<;>cases b<;>simp[Bl]at hb<;>first | (cases h2;done) | simp[eqGuard] | (simp[eqGuard,Op.eqGuardIn,run_underlying hu];done)
     have hbo:op= .eql\/op= .neq:=by cases op<;>simp at hi<;>simp
     rw[hg];have hbin:∀r:BinOp,(r= .eql->binOp r t a b=(do pure (.bool (←Op.equal t a b))))/\(r= .neq->binOp r t a b=(do pure (.bool (!(←Op.equal t a b))))):=by
      intro r;refine⟨?_,?_⟩<;>rintro rfl<;>(cases d<;>cases a<;>simp[Bl]at ha<;>cases b<;>simp[Bl]at hb<;>rfl)
     rcases hbo with rfl | rfl
     .simp only at hi;cases hi
      simp[(hbin .eql).1 rfl,he]
     .simp only at hi;cases hi
      simp[(hbin .neq).2 rfl,he]
end
section
variable {P:Program}{base:Env}{W0:World}{Z:AW}{H:AA}{W:World}
def JE:Op->Bool
 | .select ..=>true
 | _=>false
def IL(P:Program)(ρ:Operand->Value)(o:Oper)(H:AA):Option (Value × AA):=
 bif o.op.operands.toList.all (fun x=>flat (ρ x))&& !(JE o.op)then
  match NN P (execOp ρ o)with
  | some (.value v)=>bif flat v then some (v,H)else none
  | _=>none
 else none
def Ei:Value->Bool
 | .chan _=>false
 | _=>true
def Ke(P:Program)(ρ:Operand->Value)(o:Oper)(c:Call)(b:Builtin)(H:AA):Option (Value × AA):=
 match b with
 | .append=>Tk P c.argTypes (c.args.toList.map ρ) H
 | .copy=>fY P c.argTypes (c.args.toList.map ρ) H
 | .clear=>MA P c.argTypes (c.args.toList.map ρ) H
 | .len=>match c.argTypes.toList,c.args.toList with
  | t::_,[x]=>match tY P t (ρ x)with
   | some v=>some (v,H)
   | none=>none
  | _,_=>none
 | _=>IL P ρ o H
def O2(P:Program)(ρ:Operand->Value)(o:Oper)(H:AA):Option (Value × AA):=
 match o.op with
 | .move x=>some (ρ x,H)
 | .assign x=>some (ρ x,H)
 | .pick c a b=>match ρ c with
  | .bool t=>some (bif t then ρ a else ρ b,H)
  | _=>none
 | .extract t i=>match ρ t with
  | .tuple vs=>match vs.toList[i]? with
   | some v=>some (v,H)
   | none=>none
  | _=>none
 | .nilCheck x=>match ρ x with
  | .pointer (some a)=>some (.pointer (some a),H)
  | .func (.func f) a b=>some (.func (.func f) a b,H)
  | .func (.yield f) a b=>some (.func (.yield f) a b,H)
  | _=>none
 | .makeFunc fn first captured=>match fn with
  | .yield _=>none
  | fn=>some (.func fn ⟨first.toList.map ρ⟩ ⟨captured.toList.map ρ⟩,H)
 | .makeInterface t x=>match P.underlying t with
  | some (.interface _)=>none
  | some _=>some (.iface t (ρ x),H)
  | none=>none
 | .load t a=>match NB P t (ρ a) H with
  | some v=>some (v,H)
  | none=>none
 | .store t a x=>match Rp P t (ρ a) (ρ x) H with
  | some H'=>some (Go.undef,H')
  | none=>none
 | .alloc t=>match Is P t with
  | some z=>some (.pointer (some ⟨H.next,0,none⟩),H.alloc (.cells z 0 false))
  | none=>none
 | .box _ x=>bif Ei (ρ x)then some (.pointer (some ⟨H.next,0,none⟩),H.alloc (.cells (ρ x).cells.toList 0 false))else none
 | .build t parts=>bif parts.toList.all (fun p=>Ei (ρ p.2))then
  match YW P t (parts.toList.map fun p=>(p.1,ρ p.2))with
  | some v=>some (v,H)
  | none=>none
  else none
 | .buildSlice t len parts=>bif Nat.blt len AT&&parts.toList.all (fun p=>Ei (ρ p.2))then HG P t len (parts.toList.map fun p=>(p.1,ρ p.2)) H else none
 | .makeSlice t l c=>IC P t (ρ l) (ρ c) H
 | .slice t x lo hi mx=>match Jd P t (ρ x) (lo.map ρ) (hi.map ρ) (mx.map ρ) H with
  | some v=>some (v,H)
  | none=>none
 | .fieldAddr s x k=>match Jm P s (ρ x) k with
  | some v=>some (v,H)
  | none=>none
 | .field t x k=>match X8 P t (ρ x) k with
  | some v=>some (v,H)
  | none=>none
 | .indexAddr t x i=>match Gm P t (ρ x) (ρ i)with
  | some v=>some (v,H)
  | none=>none
 | .index t x i=>match QL P t (ρ x) (ρ i)with
  | some v=>some (v,H)
  | none=>none
 | .range t x=>YH P t (ρ x) H
 | .next it s=>Zt (ρ it) s H
 | .binOp op t x y _=>match IL P ρ o H with
  | some r=>some r
  | none=>match IT P op t (ρ x) (ρ y)with
   | some v=>some (v,H)
   | none=>none
 | .convert s d x=>match IL P ρ o H with
  | some r=>some r
  | none=>JF P s d (ρ x) H
 | .unOp _ _ _=>IL P ρ o H
 | .call c=>match c.callee with
  | .builtin b=>Ke P ρ o c b H
  | _=>none
 | _=>none
def Fin(nx:Next)(v:Value):Prop:=nx= .value v\/(nx= .skip/\v=Go.undef)
def CY(P:Program)(base:Env)(W0:World)(Z:AW)(H:AA)(W:World)(s:Sem Next)(v:Value)(H':AA):Prop:=
 ∃μ' nx v' W',s.run P W= .ok nx W'/\Fin nx v'/\AH base W0 μ' H' W'/\AF μ' v v'/\Ah Z H μ' H'
theorem CY.value(h:AH base W0 Z H W){s:Sem Value}{v:Value}(hs:∃v',s.run P W= .ok v' W/\AF Z v v'):CY P base W0 Z H W (do pure (.value (←s))) v H:=by
 obtain⟨v',h1,h2⟩:=hs;exact⟨Z,.value v',v',W,by simp[h1],.inl rfl,h,h2,Ah.refl _ _⟩
theorem CY.GX{s:Sem Value}{v:Value}{H':AA}(hs:∃μ' v' W',s.run P W= .ok v' W'/\AH base W0 μ' H' W'/\AF μ' v v'/\Ah Z H μ' H'):CY P base W0 Z H W (do pure (.value (←s))) v H':=by
 obtain⟨μ',v',W',h1,h2,h3,h4⟩:=hs;exact⟨μ',.value v',v',W',by simp[h1],.inl rfl,h2,h3,h4⟩
theorem LQ(h:AH base W0 Z H W){ρ ρ':Operand->Value}(hρ:∀x,AF Z (ρ x) (ρ' x)){o:Oper}{v:Value}{H':AA}(hi:IL P ρ o H=some (v,H')):CY P base W0 Z H W (execOp ρ' o) v H':=by
 unfold IL at hi;cases hc:(o.op.operands.toList.all (fun x=>flat (ρ x))&& !(JE o.op))
 .simp only[hc,AAR]at hi;cases hi
 .simp only[hc,AAO]at hi;simp only[AAQ,ABd]at hc;split at hi
  .rename_i v0 hp;cases hf:flat v0
   .simp[hf]at hi
   .simp only[hf,AAO,AAN,AAm]at hi;obtain⟨rfl,rfl⟩:=hi;have he:execOp ρ' o=execOp ρ o:=by
     refine execOp_congr o (fun cs b e=>?_) fun x hx=>?_
     .rw[e]at hc;simp[JE]at hc
     .have:=List.all_eq_true.1 hc.1 x (by simpa using hx);exact LN this (hρ x)
    rw[he];exact⟨Z,.value v0,v0,W,Ok hp W,.inl rfl,h,D4 hf,Ah.refl _ _⟩
  .cases hi
theorem ME{v:Value}(h:Ei v=true):∀c,v≠ .chan c:=by rintro c rfl;cases h
theorem Kx{ρ ρ':Operand->Value}(hρ:∀x,AF Z (ρ x) (ρ' x)):∀(l:List (Nat × Operand)),l.all (fun p=>Ei (ρ p.2))=true->ZD Z (l.map fun p=>(p.1,ρ p.2)) (l.map fun p=>(p.1,ρ' p.2))
 | [],_=> .nil
 | (i,x)::l,h=>by
  simp only[ABN,AAQ]at h;exact .cons (hρ x) (ME h.1) (Kx hρ l h.2)
theorem Hq{ρ ρ':Operand->Value}(hρ:∀x,AF Z (ρ x) (ρ' x))(x:Option Operand):Fx Z (x.map ρ) (x.map ρ'):=by
 cases x with
 | none=>exact .none
 | some x=>exact .some (hρ x)
theorem Ue(h:AH base W0 Z H W){ρ ρ':Operand->Value}(hρ:∀x,AF Z (ρ x) (ρ' x)){o:Oper}{c:Call}{b:Builtin}(ho:o.op= .call c)(hcal:c.callee= .builtin b){v:Value}{H':AA}(hi:Ke P ρ o c b H=some (v,H')):
 CY P base W0 Z H W (execOp ρ' o) v H':=by
 have hargs:Af Z (c.args.toList.map ρ) (c.args.map ρ').toList:=by
  rw[ABb];exact Af.map _ _ _ fun x _=>hρ x
 obtain⟨cst,hex⟩:∃cst,execOp ρ' o=builtin b c.argTypes o.type cst (c.args.map ρ'):=by
  simp only[execOp,ho,resolve,hcal];exact⟨_,rfl⟩
 unfold Ke at hi;split at hi
 .rw[hex];exact CY.GX (Y6 h hargs hi)
 .rw[hex];obtain⟨v',W',h1,h2,h3,h4⟩:=iS (P:=P) (ty:=o.type) h hargs hi;exact CY.GX ⟨Z,v',W',h1,h2,h3,h4⟩
 .rw[hex];obtain⟨v',W',h1,h2,h3,h4⟩:=Nr (P:=P) (ty:=o.type) h hargs hi;exact CY.GX ⟨Z,v',W',h1,h2,h3,h4⟩
 .rw[hex];split at hi
  .rename_i t _ x ht hx;split at hi
   .rename_i v0 hl;cases hi
    have ht0:c.argTypes[0]? = some t:=by rw[<-AAx,ht];rfl
    have ha:c.args.map ρ'=#[ρ' x]:=by rw[<-ABx,ABb,hx];rfl
    obtain⟨r1,n,r2⟩:=pj (P:=P) (W:=W) (ty:=o.type) (hρ x) ht0 hl;rw[ha];subst r2;exact CY.value h ⟨_,r1,.int _ _⟩
   .cases hi
  .cases hi
 .exact LQ h hρ hi
theorem gh(h:AH base W0 Z H W){ρ ρ':Operand->Value}(hρ:∀x,AF Z (ρ x) (ρ' x)){o:Oper}{v:Value}{H':AA}(hi:O2 P ρ o H=some (v,H')):CY P base W0 Z H W (execOp ρ' o) v H':=by
 unfold O2 at hi;split at hi
 .rename_i x ho;cases hi
  exact⟨Z,.value (ρ' x),ρ' x,W,by simp[execOp,ho],.inl rfl,h,hρ x,Ah.refl _ _⟩
 .rename_i x ho;cases hi
  exact⟨Z,.value (ρ' x),ρ' x,W,by simp[execOp,ho],.inl rfl,h,hρ x,Ah.refl _ _⟩
 .rename_i c a b ho;split at hi
  .rename_i t hc;cases hi
   have hc':ρ' c= .bool t:=by
    have hq:=hρ c;rw[hc]at hq;generalize ρ' c=q at hq ⊢;cases hq;rfl
   refine⟨Z,.value (if t then ρ' a else ρ' b),_,W,by simp[execOp,ho,hc',asBool],.inl rfl,h,?_,Ah.refl _ _⟩;cases t
   .exact hρ b
   .exact hρ a
  .cases hi
 .rename_i t i ho;split at hi
  .rename_i vs hvs;split at hi
   .rename_i v0 hv0;cases hi
    have hr:=hρ t;rw[hvs]at hr;obtain⟨vs',he,hl⟩:=AF.CM.1 hr;obtain⟨v',h1,h2⟩:=hl.get? hv0;rw[AAx]at h1;exact⟨Z,.value v',v',W,by simp[execOp,ho,he,Instr.extract,h1],.inl rfl,h,h2,Ah.refl _ _⟩
   .cases hi
  .cases hi
 .rename_i x ho;have hr:=hρ x;split at hi
  .rename_i a ha;cases hi
   rw[ha]at hr;generalize hq:ρ' x=q at hr;cases hr with
   | ptr b o T hm=>exact⟨Z,_,_,W,by simp only[execOp,ho,hq];rfl,.inl rfl,h,.ptr b o T hm,Ah.refl _ _⟩
   | HV b o i T hm hlo=>exact⟨Z,_,_,W,by simp only[execOp,ho,hq];rfl,.inl rfl,h,.HV b o i T hm hlo,Ah.refl _ _⟩
   | Hn b o j T M hm hm2 hcu=>exact⟨Z,_,_,W,by simp only[execOp,ho,hq];rfl,.inl rfl,h,.Hn b o j T M hm hm2 hcu,Ah.refl _ _⟩
  .rename_i f a b ha;cases hi
   rw[ha]at hr;obtain⟨fn',xs',ys',he,hf,hx1,hy1⟩:=AF.Cd.1 hr;cases hf
   exact⟨Z,_,_,W,by simp only[execOp,ho,he];rfl,.inl rfl,h,AF.Cd.2 ⟨_,_,_,rfl,.func f,hx1,hy1⟩,Ah.refl _ _⟩
  .rename_i f a b ha;cases hi
   rw[ha]at hr;obtain⟨fn',xs',ys',he,hf,hx1,hy1⟩:=AF.Cd.1 hr;cases hf with
   | yield _ T hm=>exact⟨Z,_,_,W,by simp only[execOp,ho,he];rfl,.inl rfl,h,AF.Cd.2 ⟨_,_,_,rfl,.yield f T hm,hx1,hy1⟩,Ah.refl _ _⟩
  .cases hi
 .rename_i fn first captured ho;have hl1:Af Z (first.toList.map ρ) (first.map ρ').toList:=by rw[ABb];exact Af.map _ _ _ fun x _=>hρ x
  have hl2:Af Z (captured.toList.map ρ) (captured.map ρ').toList:=by rw[ABb];exact Af.map _ _ _ fun x _=>hρ x
  split at hi
  .cases hi
  .rename_i hny;cases hi
   have hfn:Ic Z fn fn:=by
    cases fn with
    | func f=>exact .func f
    | method n=>exact .method n
    | methodOf t n=>exact .methodOf t n
    | via t p f b=>exact .via t p f b
    | yield l=>exact absurd rfl (hny l)
   exact⟨Z,.value (.func fn (first.map ρ') (captured.map ρ')),_,W,by simp[execOp,ho,Instr.makeFunc],.inl rfl,h,AF.Cd.2 ⟨_,_,_,rfl,hfn,hl1,hl2⟩,Ah.refl _ _⟩
 .rename_i t x ho;split at hi
  .cases hi
  .rename_i d hni hu;cases hi
   refine⟨Z,.value (.iface t (ρ' x)),_,W,?_,.inl rfl,h,.iface _ _ _ (hρ x),Ah.refl _ _⟩;have hne:∀ms,d≠ .interface ms:=fun ms e=>hni ms e
   cases d<;>first | exact absurd rfl (hne _) | simp[execOp,ho,Instr.makeInterface,run_underlying hu]
  .cases hi
 .rename_i t a ho;split at hi
  .rename_i v0 hl;cases hi
   have he:execOp ρ' o=(do pure (.value (←Instr.loadAt t (ρ' a)))):=by simp only[execOp,ho]
   rw[he];exact CY.value h (Pr h (hρ a) hl)
  .cases hi
 .rename_i t a x ho;split at hi
  .rename_i H1 hs;cases hi
   obtain⟨W',h1,h2,h3⟩:=Ss (P:=P) h (hρ a) (hρ x) hs;exact⟨Z,.skip,Go.undef,W',by simp[execOp,ho,h1],.inr ⟨rfl,rfl⟩,h2,AF.undef Z,h3⟩
  .cases hi
 .rename_i t ho;split at hi
  .rename_i z hz;cases hi
   obtain⟨zz,r1,r2,r3⟩:=IF hz W;have hl:Af Z z zz.cells.toList:=by rw[<-r3];exact IP r2
   obtain⟨g1,g2⟩:=h.alloc rfl (Es W.heap.size 0 t hl);refine⟨_,.value (.pointer (some ⟨W.heap.size,0,none⟩)),_,_,?_,.inl rfl,g1,Mn ⟨W.heap.size,0,zz.cells.size,0⟩ _ rfl,g2⟩;simp[execOp,ho,Instr.alloc,r1,newVar,newRow]
  .cases hi
 .rename_i t x ho;cases hn:Ei (ρ x)
  .simp[hn]at hi
  .simp only[hn,AAO,AAN,AAm]at hi;obtain⟨rfl,rfl⟩:=hi;have hl:=JA (hρ x) (ME hn);obtain⟨g1,g2⟩:=h.alloc rfl (Es W.heap.size 0 t hl);refine⟨_,.value (.pointer (some ⟨W.heap.size,0,none⟩)),_,_,?_,.inl rfl,g1,Mn ⟨W.heap.size,0,(ρ' x).cells.size,0⟩ _ rfl,g2⟩;simp[execOp,ho,Instr.box,newVar,newRow]
 .rename_i t parts ho;cases hn:parts.toList.all (fun p=>Ei (ρ p.2))
  .simp only[hn,AAR]at hi;cases hi
  .simp only[hn,AAO]at hi;split at hi
   .rename_i v0 hb;cases hi
    have he:execOp ρ' o=(do pure (.value (←Instr.build t (parts.map fun(i,x)=>(i,ρ' x))))):=by simp only[execOp,ho]
    rw[he];exact CY.value h (bo (Kx hρ _ hn) hb _ (by rw[ABb]))
   .cases hi
 .rename_i t len parts ho;cases hn:(Nat.blt len AT&&parts.toList.all (fun p=>Ei (ρ p.2)))
  .simp only[hn,AAR]at hi;cases hi
  .simp only[hn,AAO]at hi;simp only[AAQ]at hn;have he:execOp ρ' o=(do pure (.value (←Instr.buildSlice t len (parts.map fun(i,x)=>(i,ρ' x))))):=by simp only[execOp,ho]
   rw[he];exact CY.GX (QY h (Kx hρ _ hn.2) hi _ (by rw[ABb]) (VC hn.1))
 .rename_i t l c ho;have he:execOp ρ' o=(do pure (.value (←Instr.makeSlice t (ρ' l) (ρ' c)))):=by simp only[execOp,ho]
  rw[he];exact CY.GX (SG h (hρ l) (hρ c) hi)
 .rename_i t x lo hi2 mx ho;split at hi
  .rename_i v0 hs;cases hi
   have he:execOp ρ' o=(do pure (.value (←Instr.sliceAt t (ρ' x) (lo.map ρ') (hi2.map ρ') (mx.map ρ')))):=by simp only[execOp,ho]
   rw[he];exact CY.value h (K1 h (hρ x) (Hq hρ lo) (Hq hρ hi2) (Hq hρ mx) hs)
  .cases hi
 .rename_i s x k ho;split at hi
  .rename_i v0 hs;cases hi
   have he:execOp ρ' o=(do pure (.value (←Instr.fieldAt s (ρ' x) k))):=by simp only[execOp,ho]
   rw[he];exact CY.value h (Ls (hρ x) hs)
  .cases hi
 .rename_i s x k ho;split at hi
  .rename_i v0 hs;cases hi
   have he:execOp ρ' o=(do pure (.value (←Instr.field s (ρ' x) k))):=by simp only[execOp,ho]
   rw[he];exact CY.value h (bT (hρ x) hs)
  .cases hi
 .rename_i s x k ho;split at hi
  .rename_i v0 hs;cases hi
   have he:execOp ρ' o=(do pure (.value (←Instr.indexAt s (ρ' x) (ρ' k)))):=by simp only[execOp,ho]
   rw[he];exact CY.value h (Gy (hρ x) (hρ k) hs)
  .cases hi
 .rename_i s x k ho;split at hi
  .rename_i v0 hs;cases hi
   have he:execOp ρ' o=(do pure (.value (←Instr.index s (ρ' x) (ρ' k)))):=by simp only[execOp,ho]
   rw[he];exact CY.value h (N5 (hρ x) (hρ k) hs)
  .cases hi
 .rename_i t x ho;have he:execOp ρ' o=(do pure (.value (←Instr.range t (ρ' x)))):=by simp only[execOp,ho]
  rw[he];exact CY.GX (bV h (hρ x) hi)
 .rename_i it s ho;have he:execOp ρ' o=(do pure (.value (←Instr.next (ρ' it) s o.type))):=by simp only[execOp,ho]
  rw[he];obtain⟨v',W',h1,h2,h3,h4⟩:=Wx (P:=P) (ty:=o.type) h (hρ it) hi;exact CY.GX ⟨Z,v',W',h1,h2,h3,h4⟩
 .rename_i op t x y yt ho;split at hi
  .rename_i r hr;cases hi
   exact LQ h hρ hr
  .split at hi
   .rename_i v0 he;cases hi
    have he':IT P op t (ρ' x) (ρ' y)=some v:=by
     unfold IT at he ⊢;cases h2:Gd (ρ x) (ρ y)
     case true=>rw[h2]at he;cases he
     rw[h2,AAR]at he;cases ha:Bl (ρ x) (P.underlying t)with
     | none=>simp[ha]at he
     | some p=>
      cases hb:Bl (ρ y) (P.underlying t)with
      | none=>simp[ha,hb]at he
      | some q=>
       rw[YV (hρ x) (hρ y) ha hb h2,ON (hρ x) ha,ON (hρ y) hb,AAR];rw[ha,hb]at he;exact he
    have hfl:∃b,v= .bool b:=by
     unfold IT at he;cases h2:Gd (ρ x) (ρ y)
     case true=>rw[h2]at he;cases he
     rw[h2,AAR]at he;split at he
     .rename_i p q _ _;cases hpq:(p||q)
      .simp[hpq]at he
      .simp only[hpq,AAO]at he;split at he<;>first | (cases he;exact⟨_,rfl⟩) | cases he
     .cases he
    obtain⟨b,rfl⟩:=hfl;have hex:execOp ρ' o=(do pure (.value (←(do eqGuard op t x y (ρ' x) (ρ' y);binOp op t (ρ' x) (ρ' y))))):=by simp only[execOp,ho]
    rw[hex];exact CY.value h ⟨_,Nd he' W,.bool _⟩
   .cases hi
 .rename_i s d x ho;split at hi
  .rename_i r hr;cases hi
   exact LQ h hρ hr
  .have he:execOp ρ' o=(do pure (.value (←convert s d (ρ' x)))):=by simp only[execOp,ho]
   rw[he];exact CY.GX (KH h (hρ x) hi)
 .exact LQ h hρ hi
 .rename_i c ho;split at hi
  .rename_i b hb;exact Ue h hρ ho hb hi
  .cases hi
 .cases hi
end
end Go.AB
