/-
  Part of the proof: the machine that runs a program by fixed orders, and that each of its runs is a run of the model; or a run of it in parts. No conditions.
-/
import Derived.Test.YtfgamdmnljnonaaGreatDoorC41s8
import Derived.Test.YtfgamdmnljnonaaGreatDoorIdVCu
set_option maxRecDepth 1000000
namespace Go.Ideal
open Go.Proofs
noncomputable def qMd (s z r w k v p : Int) : PlainF where
  ok := fun args => match args with
    | [.agg ⟨[.int .u32 n0, .int .u32 n1, .int .u32 n2, .int .u32 n3, .int .u32 n4, .int .u32 n5, .int .u32 n6]⟩] => (u32J n0 ∧ u32J n1 ∧ u32J n2 ∧ u32J n3 ∧ u32J n4 ∧ u32J n5 ∧ u32J n6) ∧
        cfgV s z r w k v p = cfgV (mSf n0 n1 n2 n3 n4 n5 n6) (mZf n0 n1 n2 n3 n4 n5 n6) (mRf n0 n1 n2 n3 n4 n5 n6) (mWf n0 n1 n2 n3 n4 n5 n6) (mKf n0 n1 n2 n3 n4 n5 n6) (mVf n0 n1 n2 n3 n4 n5 n6) (mPf n0 n1 n2 n3 n4 n5 n6)
    | _ => False
  v := fun _ => cfgV s z r w k v p
noncomputable def pRnd : PFun := fun args H K => match args with
  | [.agg ⟨[.int .i64 s, .int .i64 z, .int .i64 r, .int .i64 w, .int .i64 k, .int .i64 v, .int .i64 p]⟩, .int .u64 seed, .int .i64 n, .bool cr] =>
    ((cfgOk s z r w k v p ∧ seedIn seed) ∧ 0 ≤ n ∧ n ≤ 2000) ∧ (bif Nat.beq H.next 22 then (bif decide (n ≤ 0) then K (.tuple ⟨[.slice none 0 0, .int .i64 0]⟩) H
      else K (.tuple ⟨[.slice (some ⟨H.next, 0, some 0⟩) n.toNat capU, .int .i64 0]⟩) (H.alloc (.vec kOp (opsS z v cr (seed % 4294967296) n.toNat) false)))
      else 0 < n ∧ K (.tuple ⟨[.slice (some ⟨H.next, 0, some 0⟩) n.toNat capU, .int .i64 0]⟩) (H.alloc (.vec kOp (opsS z v cr (seed % 4294967296) n.toNat) false)))
  | _ => False
noncomputable abbrev psFs (s z r w k v p : Int) : List (FuncId × IFun) := [(f_drumlinlaw41_works, knownF wrkK), (f_drumlinlaw17_Made, (qMd s z r w k v p).F), (f_play_Random, footF tabLaid 20 [] rndG), (f_slices_Equal_api_Op_api_Op, footF tabLaid 20 [] eqG2), (f_op_Check, qChk.F), (f_key_Fits, qFit.F), (f_value_Check, qVck.F)]
noncomputable def XPs (s z r w k v p : Int) : Ctx := ctxI Tryz.prog tabLaid (psFs s z r w k v p)
noncomputable def pMd (s z r w k v p : Int) : PFun := fun args H K => match args with
  | [.agg ⟨[.int .u32 n0, .int .u32 n1, .int .u32 n2, .int .u32 n3, .int .u32 n4, .int .u32 n5, .int .u32 n6]⟩] => (u32J n0 ∧ u32J n1 ∧ u32J n2 ∧ u32J n3 ∧ u32J n4 ∧ u32J n5 ∧ u32J n6 ∧
        cfgV s z r w k v p = cfgV (mSf n0 n1 n2 n3 n4 n5 n6) (mZf n0 n1 n2 n3 n4 n5 n6) (mRf n0 n1 n2 n3 n4 n5 n6) (mWf n0 n1 n2 n3 n4 n5 n6) (mKf n0 n1 n2 n3 n4 n5 n6) (mVf n0 n1 n2 n3 n4 n5 n6) (mPf n0 n1 n2 n3 n4 n5 n6)) ∧ K (cfgV s z r w k v p) H
  | _ => False
noncomputable def pChk : PFun := fun args H K => match args with
  | [.agg ⟨[.int .i64 k, .int .i64 a, .int .i64 b, .string key, .string val]⟩] => OpGood 8192 512 (k, a, b, key, val) ∧ K (.int .i64 0) H
  | _ => False
noncomputable def pFit : PFun := fun args H K => match args with
  | [.string s, .int .i64 m] => (isLet s ∧ 1 ≤ m ∧ m ≤ 32) ∧ K (.int .i64 0) H
  | _ => False
noncomputable def pVck : PFun := fun args H K => match args with
  | [.string s, .int .i64 m] => ((0 ≤ m ∧ m ≤ 512) ∧ (s.size : Int) ≤ m) ∧ K (.int .i64 0) H
  | _ => False
noncomputable def pfPs (s z r w k v p : Int) : Pf := fun g => bif Nat.beq g f_drumlinlaw17_Made then some (pMd s z r w k v p) else (fun g => bif Nat.beq g f_play_Random then some pRnd else (fun g => bif Nat.beq g f_slices_Equal_api_Op_api_Op then some (footPf tabLaid 20 [] eqG2) else
  (fun g => bif Nat.beq g f_op_Check then some pChk else (fun g => bif Nat.beq g f_key_Fits then some pFit else (fun g => bif Nat.beq g f_value_Check then some pVck else noPf g) g) g) g) g) g
noncomputable def psT (s z r w k v p : Int) (cr : Bool) (l : List (EK.C kOp)) (nl : Nat) (n i : Int) : Cfg :=
  ⟨⟨f_drumlinlaw41_PlayScripts, mkT [(4, .bool cr), (11, ptr 20), (75, .slice (some ⟨21, 0, some 0⟩) nl capU), (76, .int .i64 n), (77, .int .i64 i)], 135,
    [.code (pcOf Tryz.prog f_drumlinlaw41_PlayScripts [1, 1, 1, 1, 1, 0, 1, 0, 0]), .inLoop (pcOf Tryz.prog f_drumlinlaw41_PlayScripts [1, 1, 1, 1, 1, 0, 1, 0, 0]), .inBlock 0, .code (pcOf Tryz.prog f_drumlinlaw41_PlayScripts [1, 1, 1, 1, 1, 1])], [], false, .normal, none⟩, [],
    (hp0.alloc (.cells [.int .i64 s, .int .i64 z, .int .i64 r, .int .i64 w, .int .i64 k, .int .i64 v, .int .i64 p] 0 false)).alloc (.vec kOp l false)⟩
def psS : Stop := ⟨f_drumlinlaw41_PlayScripts, 0, 3, 20, [], [4, 11, 75, 76, 77]⟩
noncomputable def psV (n0 n1 n2 n3 n4 n5 n6 seed many more : Int) (cr : Bool) : List Value := [nV n0 n1 n2 n3 n4 n5 n6, .int .u64 seed, .int .u8 many, .int .u8 more, .bool cr]
theorem vc_psAt (s z r w k v p n0 n1 n2 n3 n4 n5 n6 seed many more : Int) (Q : Value → List (Option IObj) → Prop) (R : Cfg → Prop) : VCu (XPs s z r w k v p) (pfPs s z r w k v p) f_drumlinlaw41_PlayScripts [] psS (rowAt 75) Q R 4000 (st f_drumlinlaw41_PlayScripts 135 (psV n0 n1 n2 n3 n4 n5 n6 seed many more true) hp0) = (
 (u32J n0 ∧ u32J n1 ∧ u32J n2 ∧ u32J n3 ∧ u32J n4 ∧ u32J n5 ∧ u32J n6 ∧ cfgV s z r w k v p = cfgV (mSf n0 n1 n2 n3 n4 n5 n6) (mZf n0 n1 n2 n3 n4 n5 n6) (mRf n0 n1 n2 n3 n4 n5 n6) (mWf n0 n1 n2 n3 n4 n5 n6) (mKf n0 n1 n2 n3 n4 n5 n6) (mVf n0 n1 n2 n3 n4 n5 n6) (mPf n0 n1 n2 n3 n4 n5 n6)) ∧
 ((cfgOk s z r w k v p ∧ seedIn seed) ∧ 0 ≤ IntKind.wrap IntKind.i64 many ∧ IntKind.wrap IntKind.i64 many ≤ 2000) ∧
 (bif decide (IntKind.wrap IntKind.i64 many ≤ 0) then
  ((cfgOk s z r w k v p ∧ seedIn (IntKind.wrap IntKind.u64 ↑(BitVec.toNat (BitVec.ofInt (IntKind.bits IntKind.u64) seed ^^^ BitVec.ofInt (IntKind.bits IntKind.u64) 1099511627776)))) ∧ 0 ≤ IntKind.wrap IntKind.i64 (IntKind.wrap IntKind.i64 many + IntKind.wrap IntKind.i64 more) ∧ IntKind.wrap IntKind.i64 (IntKind.wrap IntKind.i64 many + IntKind.wrap IntKind.i64 more) ≤ 2000) ∧
  (bif decide (IntKind.wrap IntKind.i64 (IntKind.wrap IntKind.i64 many + IntKind.wrap IntKind.i64 more) ≤ 0) then
   (bif 0 != IntKind.wrap IntKind.i64 many then
    (Q (.bool false) [])
   else
    (bif 0 != IntKind.wrap IntKind.i64 (IntKind.wrap IntKind.i64 many + IntKind.wrap IntKind.i64 more) then
     (Q (.bool false) [])
    else
     (Q (.bool true) [])))
  else
   (bif 0 != IntKind.wrap IntKind.i64 many then
    (Q (.bool false) [])
   else
    (bif Int.ofNat (Int.toNat (IntKind.wrap IntKind.i64 (IntKind.wrap IntKind.i64 many + IntKind.wrap IntKind.i64 more))) != IntKind.wrap IntKind.i64 (IntKind.wrap IntKind.i64 many + IntKind.wrap IntKind.i64 more) then
     (Q (.bool false) [])
    else
     (0 = 0 ∧ capU = capU) ∧
     (R (psT s z r w k v p true (opsS z v true (IntKind.wrap IntKind.u64 ↑(BitVec.toNat (BitVec.ofInt (IntKind.bits IntKind.u64) seed ^^^ BitVec.ofInt (IntKind.bits IntKind.u64) 1099511627776)) % 4294967296) (Int.toNat (IntKind.wrap IntKind.i64 (IntKind.wrap IntKind.i64 many + IntKind.wrap IntKind.i64 more)))) (Int.toNat (IntKind.wrap IntKind.i64 (IntKind.wrap IntKind.i64 many + IntKind.wrap IntKind.i64 more))) (Int.ofNat (Int.toNat (IntKind.wrap IntKind.i64 (IntKind.wrap IntKind.i64 many + IntKind.wrap IntKind.i64 more)))) 0)))))
 else
  ((cfgOk s z r w k v p ∧ seedIn (IntKind.wrap IntKind.u64 ↑(BitVec.toNat (BitVec.ofInt (IntKind.bits IntKind.u64) seed ^^^ BitVec.ofInt (IntKind.bits IntKind.u64) 1099511627776)))) ∧ 0 ≤ IntKind.wrap IntKind.i64 (IntKind.wrap IntKind.i64 many + IntKind.wrap IntKind.i64 more) ∧ IntKind.wrap IntKind.i64 (IntKind.wrap IntKind.i64 many + IntKind.wrap IntKind.i64 more) ≤ 2000) ∧
  (0 < IntKind.wrap IntKind.i64 (IntKind.wrap IntKind.i64 many + IntKind.wrap IntKind.i64 more)) ∧
  (bif Int.ofNat (Int.toNat (IntKind.wrap IntKind.i64 many)) != IntKind.wrap IntKind.i64 many then
   (Q (.bool false) [])
  else
   (bif Int.ofNat (Int.toNat (IntKind.wrap IntKind.i64 (IntKind.wrap IntKind.i64 many + IntKind.wrap IntKind.i64 more))) != IntKind.wrap IntKind.i64 (IntKind.wrap IntKind.i64 many + IntKind.wrap IntKind.i64 more) then
    (Q (.bool false) [])
   else
    (bif decide (0 ≤ Int.ofNat (Int.toNat (IntKind.wrap IntKind.i64 many))) && Nat.ble (Int.toNat (Int.ofNat (Int.toNat (IntKind.wrap IntKind.i64 many)))) (Int.toNat (IntKind.wrap IntKind.i64 (IntKind.wrap IntKind.i64 many + IntKind.wrap IntKind.i64 more))) && decide (0 ≤ 0) && Nat.ble 0 (Int.toNat (Int.ofNat (Int.toNat (IntKind.wrap IntKind.i64 many)))) then
     (Int.toNat (IntKind.wrap IntKind.i64 many) = Int.toNat (Int.ofNat (Int.toNat (IntKind.wrap IntKind.i64 many))) - 0 ∧ capU = capU ∧ capU = capU ∧ Int.toNat (IntKind.wrap IntKind.i64 many) ≤ List.length (opsS z v true (seed % 4294967296) (Int.toNat (IntKind.wrap IntKind.i64 many))) ∧ Int.toNat (IntKind.wrap IntKind.i64 many) ≤ List.length (opsS z v true (IntKind.wrap IntKind.u64 ↑(BitVec.toNat (BitVec.ofInt (IntKind.bits IntKind.u64) seed ^^^ BitVec.ofInt (IntKind.bits IntKind.u64) 1099511627776)) % 4294967296) (Int.toNat (IntKind.wrap IntKind.i64 (IntKind.wrap IntKind.i64 many + IntKind.wrap IntKind.i64 more)))) ∧ List.take (Int.toNat (IntKind.wrap IntKind.i64 many)) (opsS z v true (seed % 4294967296) (Int.toNat (IntKind.wrap IntKind.i64 many))) = List.take (Int.toNat (IntKind.wrap IntKind.i64 many)) (opsS z v true (IntKind.wrap IntKind.u64 ↑(BitVec.toNat (BitVec.ofInt (IntKind.bits IntKind.u64) seed ^^^ BitVec.ofInt (IntKind.bits IntKind.u64) 1099511627776)) % 4294967296) (Int.toNat (IntKind.wrap IntKind.i64 (IntKind.wrap IntKind.i64 many + IntKind.wrap IntKind.i64 more)))) ∧ Int.toNat (IntKind.wrap IntKind.i64 many) ≤ 1000000) ∧
     (R (psT s z r w k v p true (opsS z v true (IntKind.wrap IntKind.u64 ↑(BitVec.toNat (BitVec.ofInt (IntKind.bits IntKind.u64) seed ^^^ BitVec.ofInt (IntKind.bits IntKind.u64) 1099511627776)) % 4294967296) (Int.toNat (IntKind.wrap IntKind.i64 (IntKind.wrap IntKind.i64 many + IntKind.wrap IntKind.i64 more)))) (Int.toNat (IntKind.wrap IntKind.i64 (IntKind.wrap IntKind.i64 many + IntKind.wrap IntKind.i64 more))) (Int.ofNat (Int.toNat (IntKind.wrap IntKind.i64 (IntKind.wrap IntKind.i64 many + IntKind.wrap IntKind.i64 more)))) 0))
    else
     False))))) := by kernel_rfl
theorem vc_psLt (s z r w k v p : Int) (l : List (EK.C kOp)) (nl : Nat) (n i : Int) (Q : Value → List (Option IObj) → Prop) (R : Cfg → Prop) : VCu (XPs s z r w k v p) (pfPs s z r w k v p) f_drumlinlaw41_PlayScripts [] psS (rowAt 75) Q R 4000 (psT s z r w k v p true l nl n i) = (
 (bif decide (i < n) then
  (bif decide (0 ≤ i) && Nat.blt (Int.toNat i) nl then
   (bif Nat.blt (0 + Int.toNat i) (List.length l) then
    (OpGood 8192 512 (Prod.fst (List.getD l (0 + Int.toNat i) (EK.dflt kOp)), Prod.fst (Prod.snd (List.getD l (0 + Int.toNat i) (EK.dflt kOp))), Prod.fst (Prod.snd (Prod.snd (List.getD l (0 + Int.toNat i) (EK.dflt kOp)))), Prod.fst (Prod.snd (Prod.snd (Prod.snd (List.getD l (0 + Int.toNat i) (EK.dflt kOp))))), Prod.snd (Prod.snd (Prod.snd (Prod.snd (List.getD l (0 + Int.toNat i) (EK.dflt kOp))))))) ∧
    (bif Prod.fst (List.getD l (0 + Int.toNat i) (EK.dflt kOp)) == 1 then
     (isLet (Prod.fst (Prod.snd (Prod.snd (Prod.snd (List.getD l (0 + Int.toNat i) (EK.dflt kOp)))))) ∧ 1 ≤ k ∧ k ≤ 32) ∧
     (bif Prod.fst (List.getD l (0 + Int.toNat i) (EK.dflt kOp)) == 1 then
      ((0 ≤ v ∧ v ≤ 512) ∧ ↑(ByteArray.size (Prod.snd (Prod.snd (Prod.snd (Prod.snd (List.getD l (0 + Int.toNat i) (EK.dflt kOp))))))) ≤ v) ∧
      (R (psT s z r w k v p true l nl n (IntKind.wrap IntKind.i64 (i + 1))))
     else
      (R (psT s z r w k v p true l nl n (IntKind.wrap IntKind.i64 (i + 1)))))
    else
     (bif Prod.fst (List.getD l (0 + Int.toNat i) (EK.dflt kOp)) == 2 then
      (isLet (Prod.fst (Prod.snd (Prod.snd (Prod.snd (List.getD l (0 + Int.toNat i) (EK.dflt kOp)))))) ∧ 1 ≤ k ∧ k ≤ 32) ∧
      (bif Prod.fst (List.getD l (0 + Int.toNat i) (EK.dflt kOp)) == 1 then
       ((0 ≤ v ∧ v ≤ 512) ∧ ↑(ByteArray.size (Prod.snd (Prod.snd (Prod.snd (Prod.snd (List.getD l (0 + Int.toNat i) (EK.dflt kOp))))))) ≤ v) ∧
       (R (psT s z r w k v p true l nl n (IntKind.wrap IntKind.i64 (i + 1))))
      else
       (R (psT s z r w k v p true l nl n (IntKind.wrap IntKind.i64 (i + 1)))))
     else
      (bif Prod.fst (List.getD l (0 + Int.toNat i) (EK.dflt kOp)) == 3 then
       (isLet (Prod.fst (Prod.snd (Prod.snd (Prod.snd (List.getD l (0 + Int.toNat i) (EK.dflt kOp)))))) ∧ 1 ≤ k ∧ k ≤ 32) ∧
       (bif Prod.fst (List.getD l (0 + Int.toNat i) (EK.dflt kOp)) == 1 then
        ((0 ≤ v ∧ v ≤ 512) ∧ ↑(ByteArray.size (Prod.snd (Prod.snd (Prod.snd (Prod.snd (List.getD l (0 + Int.toNat i) (EK.dflt kOp))))))) ≤ v) ∧
        (R (psT s z r w k v p true l nl n (IntKind.wrap IntKind.i64 (i + 1))))
       else
        (R (psT s z r w k v p true l nl n (IntKind.wrap IntKind.i64 (i + 1)))))
      else
       (bif Prod.fst (List.getD l (0 + Int.toNat i) (EK.dflt kOp)) == 1 then
        ((0 ≤ v ∧ v ≤ 512) ∧ ↑(ByteArray.size (Prod.snd (Prod.snd (Prod.snd (Prod.snd (List.getD l (0 + Int.toNat i) (EK.dflt kOp))))))) ≤ v) ∧
        (R (psT s z r w k v p true l nl n (IntKind.wrap IntKind.i64 (i + 1))))
       else
        (R (psT s z r w k v p true l nl n (IntKind.wrap IntKind.i64 (i + 1))))))))
   else
    False)
  else
   False)
 else
  (Q (.bool true) []))) := by kernel_rfl
theorem vc_psAf (s z r w k v p n0 n1 n2 n3 n4 n5 n6 seed many more : Int) (Q : Value → List (Option IObj) → Prop) (R : Cfg → Prop) : VCu (XPs s z r w k v p) (pfPs s z r w k v p) f_drumlinlaw41_PlayScripts [] psS (rowAt 75) Q R 4000 (st f_drumlinlaw41_PlayScripts 135 (psV n0 n1 n2 n3 n4 n5 n6 seed many more false) hp0) = (
 (u32J n0 ∧ u32J n1 ∧ u32J n2 ∧ u32J n3 ∧ u32J n4 ∧ u32J n5 ∧ u32J n6 ∧ cfgV s z r w k v p = cfgV (mSf n0 n1 n2 n3 n4 n5 n6) (mZf n0 n1 n2 n3 n4 n5 n6) (mRf n0 n1 n2 n3 n4 n5 n6) (mWf n0 n1 n2 n3 n4 n5 n6) (mKf n0 n1 n2 n3 n4 n5 n6) (mVf n0 n1 n2 n3 n4 n5 n6) (mPf n0 n1 n2 n3 n4 n5 n6)) ∧
 ((cfgOk s z r w k v p ∧ seedIn seed) ∧ 0 ≤ IntKind.wrap IntKind.i64 many ∧ IntKind.wrap IntKind.i64 many ≤ 2000) ∧
 (bif decide (IntKind.wrap IntKind.i64 many ≤ 0) then
  ((cfgOk s z r w k v p ∧ seedIn (IntKind.wrap IntKind.u64 ↑(BitVec.toNat (BitVec.ofInt (IntKind.bits IntKind.u64) seed ^^^ BitVec.ofInt (IntKind.bits IntKind.u64) 1099511627776)))) ∧ 0 ≤ IntKind.wrap IntKind.i64 (IntKind.wrap IntKind.i64 many + IntKind.wrap IntKind.i64 more) ∧ IntKind.wrap IntKind.i64 (IntKind.wrap IntKind.i64 many + IntKind.wrap IntKind.i64 more) ≤ 2000) ∧
  (bif decide (IntKind.wrap IntKind.i64 (IntKind.wrap IntKind.i64 many + IntKind.wrap IntKind.i64 more) ≤ 0) then
   (bif 0 != IntKind.wrap IntKind.i64 many then
    (Q (.bool false) [])
   else
    (bif 0 != IntKind.wrap IntKind.i64 (IntKind.wrap IntKind.i64 many + IntKind.wrap IntKind.i64 more) then
     (Q (.bool false) [])
    else
     (Q (.bool true) [])))
  else
   (bif 0 != IntKind.wrap IntKind.i64 many then
    (Q (.bool false) [])
   else
    (bif Int.ofNat (Int.toNat (IntKind.wrap IntKind.i64 (IntKind.wrap IntKind.i64 many + IntKind.wrap IntKind.i64 more))) != IntKind.wrap IntKind.i64 (IntKind.wrap IntKind.i64 many + IntKind.wrap IntKind.i64 more) then
     (Q (.bool false) [])
    else
     (0 = 0 ∧ capU = capU) ∧
     (R (psT s z r w k v p false (opsS z v false (IntKind.wrap IntKind.u64 ↑(BitVec.toNat (BitVec.ofInt (IntKind.bits IntKind.u64) seed ^^^ BitVec.ofInt (IntKind.bits IntKind.u64) 1099511627776)) % 4294967296) (Int.toNat (IntKind.wrap IntKind.i64 (IntKind.wrap IntKind.i64 many + IntKind.wrap IntKind.i64 more)))) (Int.toNat (IntKind.wrap IntKind.i64 (IntKind.wrap IntKind.i64 many + IntKind.wrap IntKind.i64 more))) (Int.ofNat (Int.toNat (IntKind.wrap IntKind.i64 (IntKind.wrap IntKind.i64 many + IntKind.wrap IntKind.i64 more)))) 0)))))
 else
  ((cfgOk s z r w k v p ∧ seedIn (IntKind.wrap IntKind.u64 ↑(BitVec.toNat (BitVec.ofInt (IntKind.bits IntKind.u64) seed ^^^ BitVec.ofInt (IntKind.bits IntKind.u64) 1099511627776)))) ∧ 0 ≤ IntKind.wrap IntKind.i64 (IntKind.wrap IntKind.i64 many + IntKind.wrap IntKind.i64 more) ∧ IntKind.wrap IntKind.i64 (IntKind.wrap IntKind.i64 many + IntKind.wrap IntKind.i64 more) ≤ 2000) ∧
  (0 < IntKind.wrap IntKind.i64 (IntKind.wrap IntKind.i64 many + IntKind.wrap IntKind.i64 more)) ∧
  (bif Int.ofNat (Int.toNat (IntKind.wrap IntKind.i64 many)) != IntKind.wrap IntKind.i64 many then
   (Q (.bool false) [])
  else
   (bif Int.ofNat (Int.toNat (IntKind.wrap IntKind.i64 (IntKind.wrap IntKind.i64 many + IntKind.wrap IntKind.i64 more))) != IntKind.wrap IntKind.i64 (IntKind.wrap IntKind.i64 many + IntKind.wrap IntKind.i64 more) then
    (Q (.bool false) [])
   else
    (bif decide (0 ≤ Int.ofNat (Int.toNat (IntKind.wrap IntKind.i64 many))) && Nat.ble (Int.toNat (Int.ofNat (Int.toNat (IntKind.wrap IntKind.i64 many)))) (Int.toNat (IntKind.wrap IntKind.i64 (IntKind.wrap IntKind.i64 many + IntKind.wrap IntKind.i64 more))) && decide (0 ≤ 0) && Nat.ble 0 (Int.toNat (Int.ofNat (Int.toNat (IntKind.wrap IntKind.i64 many)))) then
     (Int.toNat (IntKind.wrap IntKind.i64 many) = Int.toNat (Int.ofNat (Int.toNat (IntKind.wrap IntKind.i64 many))) - 0 ∧ capU = capU ∧ capU = capU ∧ Int.toNat (IntKind.wrap IntKind.i64 many) ≤ List.length (opsS z v false (seed % 4294967296) (Int.toNat (IntKind.wrap IntKind.i64 many))) ∧ Int.toNat (IntKind.wrap IntKind.i64 many) ≤ List.length (opsS z v false (IntKind.wrap IntKind.u64 ↑(BitVec.toNat (BitVec.ofInt (IntKind.bits IntKind.u64) seed ^^^ BitVec.ofInt (IntKind.bits IntKind.u64) 1099511627776)) % 4294967296) (Int.toNat (IntKind.wrap IntKind.i64 (IntKind.wrap IntKind.i64 many + IntKind.wrap IntKind.i64 more)))) ∧ List.take (Int.toNat (IntKind.wrap IntKind.i64 many)) (opsS z v false (seed % 4294967296) (Int.toNat (IntKind.wrap IntKind.i64 many))) = List.take (Int.toNat (IntKind.wrap IntKind.i64 many)) (opsS z v false (IntKind.wrap IntKind.u64 ↑(BitVec.toNat (BitVec.ofInt (IntKind.bits IntKind.u64) seed ^^^ BitVec.ofInt (IntKind.bits IntKind.u64) 1099511627776)) % 4294967296) (Int.toNat (IntKind.wrap IntKind.i64 (IntKind.wrap IntKind.i64 many + IntKind.wrap IntKind.i64 more)))) ∧ Int.toNat (IntKind.wrap IntKind.i64 many) ≤ 1000000) ∧
     (R (psT s z r w k v p false (opsS z v false (IntKind.wrap IntKind.u64 ↑(BitVec.toNat (BitVec.ofInt (IntKind.bits IntKind.u64) seed ^^^ BitVec.ofInt (IntKind.bits IntKind.u64) 1099511627776)) % 4294967296) (Int.toNat (IntKind.wrap IntKind.i64 (IntKind.wrap IntKind.i64 many + IntKind.wrap IntKind.i64 more)))) (Int.toNat (IntKind.wrap IntKind.i64 (IntKind.wrap IntKind.i64 many + IntKind.wrap IntKind.i64 more))) (Int.ofNat (Int.toNat (IntKind.wrap IntKind.i64 (IntKind.wrap IntKind.i64 many + IntKind.wrap IntKind.i64 more)))) 0))
    else
     False))))) := by kernel_rfl
theorem vc_psLf (s z r w k v p : Int) (l : List (EK.C kOp)) (nl : Nat) (n i : Int) (Q : Value → List (Option IObj) → Prop) (R : Cfg → Prop) : VCu (XPs s z r w k v p) (pfPs s z r w k v p) f_drumlinlaw41_PlayScripts [] psS (rowAt 75) Q R 4000 (psT s z r w k v p false l nl n i) = (
 (bif decide (i < n) then
  (bif decide (0 ≤ i) && Nat.blt (Int.toNat i) nl then
   (bif Nat.blt (0 + Int.toNat i) (List.length l) then
    (OpGood 8192 512 (Prod.fst (List.getD l (0 + Int.toNat i) (EK.dflt kOp)), Prod.fst (Prod.snd (List.getD l (0 + Int.toNat i) (EK.dflt kOp))), Prod.fst (Prod.snd (Prod.snd (List.getD l (0 + Int.toNat i) (EK.dflt kOp)))), Prod.fst (Prod.snd (Prod.snd (Prod.snd (List.getD l (0 + Int.toNat i) (EK.dflt kOp))))), Prod.snd (Prod.snd (Prod.snd (Prod.snd (List.getD l (0 + Int.toNat i) (EK.dflt kOp))))))) ∧
    (bif Prod.fst (List.getD l (0 + Int.toNat i) (EK.dflt kOp)) == 7 then
     (Q (.bool false) [])
    else
     (bif Prod.fst (List.getD l (0 + Int.toNat i) (EK.dflt kOp)) == 8 then
      (Q (.bool false) [])
     else
      (bif Prod.fst (List.getD l (0 + Int.toNat i) (EK.dflt kOp)) == 1 then
       (isLet (Prod.fst (Prod.snd (Prod.snd (Prod.snd (List.getD l (0 + Int.toNat i) (EK.dflt kOp)))))) ∧ 1 ≤ k ∧ k ≤ 32) ∧
       (bif Prod.fst (List.getD l (0 + Int.toNat i) (EK.dflt kOp)) == 1 then
        ((0 ≤ v ∧ v ≤ 512) ∧ ↑(ByteArray.size (Prod.snd (Prod.snd (Prod.snd (Prod.snd (List.getD l (0 + Int.toNat i) (EK.dflt kOp))))))) ≤ v) ∧
        (R (psT s z r w k v p false l nl n (IntKind.wrap IntKind.i64 (i + 1))))
       else
        (R (psT s z r w k v p false l nl n (IntKind.wrap IntKind.i64 (i + 1)))))
      else
       (bif Prod.fst (List.getD l (0 + Int.toNat i) (EK.dflt kOp)) == 2 then
        (isLet (Prod.fst (Prod.snd (Prod.snd (Prod.snd (List.getD l (0 + Int.toNat i) (EK.dflt kOp)))))) ∧ 1 ≤ k ∧ k ≤ 32) ∧
        (bif Prod.fst (List.getD l (0 + Int.toNat i) (EK.dflt kOp)) == 1 then
         ((0 ≤ v ∧ v ≤ 512) ∧ ↑(ByteArray.size (Prod.snd (Prod.snd (Prod.snd (Prod.snd (List.getD l (0 + Int.toNat i) (EK.dflt kOp))))))) ≤ v) ∧
         (R (psT s z r w k v p false l nl n (IntKind.wrap IntKind.i64 (i + 1))))
        else
         (R (psT s z r w k v p false l nl n (IntKind.wrap IntKind.i64 (i + 1)))))
       else
        (bif Prod.fst (List.getD l (0 + Int.toNat i) (EK.dflt kOp)) == 3 then
         (isLet (Prod.fst (Prod.snd (Prod.snd (Prod.snd (List.getD l (0 + Int.toNat i) (EK.dflt kOp)))))) ∧ 1 ≤ k ∧ k ≤ 32) ∧
         (bif Prod.fst (List.getD l (0 + Int.toNat i) (EK.dflt kOp)) == 1 then
          ((0 ≤ v ∧ v ≤ 512) ∧ ↑(ByteArray.size (Prod.snd (Prod.snd (Prod.snd (Prod.snd (List.getD l (0 + Int.toNat i) (EK.dflt kOp))))))) ≤ v) ∧
          (R (psT s z r w k v p false l nl n (IntKind.wrap IntKind.i64 (i + 1))))
         else
          (R (psT s z r w k v p false l nl n (IntKind.wrap IntKind.i64 (i + 1)))))
        else
         (bif Prod.fst (List.getD l (0 + Int.toNat i) (EK.dflt kOp)) == 1 then
          ((0 ≤ v ∧ v ≤ 512) ∧ ↑(ByteArray.size (Prod.snd (Prod.snd (Prod.snd (Prod.snd (List.getD l (0 + Int.toNat i) (EK.dflt kOp))))))) ≤ v) ∧
          (R (psT s z r w k v p false l nl n (IntKind.wrap IntKind.i64 (i + 1))))
         else
          (R (psT s z r w k v p false l nl n (IntKind.wrap IntKind.i64 (i + 1))))))))))
   else
    False)
  else
   False)
 else
  (Q (.bool true) []))) := by kernel_rfl
end Go.Ideal
