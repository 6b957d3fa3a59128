/-
  Part of the proof: the machine that runs a program by fixed orders, and that each of its runs is a run of the model; or a run of it in parts. No conditions.
-/
import Derived.Test.YtihjcloanpfkaaaGreatDoorC41r15
set_option maxRecDepth 1000000
namespace Go.Ideal
open Go.Proofs
section
variable {s z r w k v p : Int}
theorem rnd_match {b : Nat} {seed n : Int} {cr : Bool} {v' : Value} {Hf : IHeap} (hb : 20 ≤ b) {x : Leaf} (hx : (rndG [cfgV s z r w k v p, .int .u64 seed, .int .i64 n, .bool cr] []).run = some x) (h : RndQ b s z r w k v p seed n cr v' Hf) : TMatch tabLaid 20 0 [] x v' Hf := by
  have hx : (GT.ask (seedIn seed) (.test (rnd1 s z r w k v p n) (.ret ⟨.tuple ⟨[.slice none 0 0, .int .i64 2]⟩, [], []⟩)
      (.test (decide (n > 2000)) (.ret ⟨.tuple ⟨[.slice none 0 0, .int .i64 10]⟩, [], []⟩)
        (.test (decide (n ≤ 0)) (.ret ⟨.tuple ⟨[.slice none 0 0, .int .i64 0]⟩, [], []⟩)
          (.ret ⟨.tuple ⟨[.slice (some ⟨20, 0, some 0⟩) n.toNat capU, .int .i64 0]⟩, [], [.vec kOp (opsS z v cr (seed % 4294967296) n.toNat) false]⟩))))).run = some x := hx
  simp only [GT.run] at hx
  split at hx
  · rcases h with ⟨h1, rfl⟩ | ⟨h1, h2, rfl⟩ | ⟨h1, h2, rfl⟩ | ⟨h1, h2, h3, rfl, h5⟩
    · simp only [h1, cond_true] at hx
      cases hx
      exact tm_plain (by rfl)
    · simp only [h1, cond_false, decide_eq_true h2, cond_true] at hx
      cases hx
      exact tm_plain (by rfl)
    · have h3 : ¬ n > 2000 := by omega
      simp only [h1, cond_false, decide_eq_false h3, decide_eq_true h2, cond_true] at hx
      cases hx
      exact tm_plain (by rfl)
    · have h4 : ¬ n > 2000 := by omega
      have h6 : ¬ n ≤ 0 := by omega
      simp only [h1, cond_false, decide_eq_false h4, decide_eq_false h6] at hx
      cases hx
      exact tm_row (by rfl) hb (by rfl) h5
  · cases hx
theorem rnd_seed {seed n : Int} {cr : Bool} {x : Leaf} (hx : (rndG [cfgV s z r w k v p, .int .u64 seed, .int .i64 n, .bool cr] []).run = some x) : seedIn seed := by
  have hx : (GT.ask (seedIn seed) _).run = some x := hx
  simp only [GT.run] at hx
  split at hx
  · assumption
  · cases hx
end
open Classical in
/-- Whether two scripts are equal: asked of such as are. -/
noncomputable def eqG (args : List Value) (objs : List IObj) : GT := match args, objs with
  | [.slice none 0 0, .slice none 0 0], [] => .ret ⟨.bool true, [], []⟩
  | [.slice (some ⟨20, 0, some 0⟩) n c, .slice (some ⟨21, 0, some 0⟩) m d], [.vec [.int .i64, .int .i64, .int .i64, .str, .str] l _, .vec [.int .i64, .int .i64, .int .i64, .str, .str] l2 _] =>
    .ask (n = l.length ∧ m = l2.length ∧ c = capU ∧ d = capU ∧ l = l2 ∧ l.length ≤ 1000000) (.ret ⟨.bool true, [], []⟩)
  | _, _ => .fail
noncomputable abbrev mFs : List (FuncId × IFun) := [(6, knownF wrkK), (7, footF tabLaid 20 [] rndG), (8, footF tabLaid 20 [] rndG), (9, footF tabLaid 20 [] eqG)]
noncomputable def XRn : Ctx := ctxI Tryz.prog tabLaid mFs
noncomputable def pfM : Pf := fun f => bif Nat.beq f 7 || Nat.beq f 8 then some (footPf tabLaid 20 [] rndG) else bif Nat.beq f 9 then some (footPf tabLaid 20 [] eqG) else none
theorem vc_rndt (s z r w k v p seed n : Int) (Q : Value → List (Option IObj) → Prop) : VCp XRn pfM 3 [] Q 4000 (st 3 47 [cfgV s z r w k v p, .int .u64 seed, .int .i64 n, .bool true] hp0) = (
 (bif decide (n > 300) then
  (bif decide (n ≤ 2000) then
   (Q (.bool true) [])
  else
   (seedIn seed) ∧
   (bif rnd1 s z r w k v p n then
    (seedIn seed) ∧
    (bif rnd1 s z r w k v p n then
     (Q (.bool true) [])
    else
     (bif decide (n > 2000) then
      (Q (.bool false) [])
     else
      (bif decide (n ≤ 0) then
       (Q (.bool false) [])
      else
       False)))
   else
    (bif decide (n > 2000) then
     (seedIn seed) ∧
     (bif rnd1 s z r w k v p n then
      (Q (.bool false) [])
     else
      (bif decide (n > 2000) then
       (Q (.bool true) [])
      else
       (bif decide (n ≤ 0) then
        (Q (.bool false) [])
       else
        False)))
    else
     (bif decide (n ≤ 0) then
      (seedIn seed) ∧
      (bif rnd1 s z r w k v p n then
       (Q (.bool false) [])
      else
       (bif decide (n > 2000) then
        (Q (.bool false) [])
       else
        (bif decide (n ≤ 0) then
         (Q (.bool true) [])
        else
         False)))
     else
      (seedIn seed) ∧
      (bif rnd1 s z r w k v p n then
       False
      else
       (bif decide (n > 2000) then
        False
       else
        (bif decide (n ≤ 0) then
         False
        else
         (Int.toNat n = List.length (opsS z v true (seed % 4294967296) (Int.toNat n)) ∧ Int.toNat n = List.length (opsS z v true (seed % 4294967296) (Int.toNat n)) ∧ capU = capU ∧ capU = capU ∧ opsS z v true (seed % 4294967296) (Int.toNat n) = opsS z v true (seed % 4294967296) (Int.toNat n) ∧ List.length (opsS z v true (seed % 4294967296) (Int.toNat n)) ≤ 1000000) ∧
         (Q (.bool true) []))))))))
 else
  (seedIn seed) ∧
  (bif rnd1 s z r w k v p n then
   (seedIn seed) ∧
   (bif rnd1 s z r w k v p n then
    (Q (.bool true) [])
   else
    (bif decide (n > 2000) then
     (Q (.bool false) [])
    else
     (bif decide (n ≤ 0) then
      (Q (.bool false) [])
     else
      False)))
  else
   (bif decide (n > 2000) then
    (seedIn seed) ∧
    (bif rnd1 s z r w k v p n then
     (Q (.bool false) [])
    else
     (bif decide (n > 2000) then
      (Q (.bool true) [])
     else
      (bif decide (n ≤ 0) then
       (Q (.bool false) [])
      else
       False)))
   else
    (bif decide (n ≤ 0) then
     (seedIn seed) ∧
     (bif rnd1 s z r w k v p n then
      (Q (.bool false) [])
     else
      (bif decide (n > 2000) then
       (Q (.bool false) [])
      else
       (bif decide (n ≤ 0) then
        (Q (.bool true) [])
       else
        False)))
    else
     (seedIn seed) ∧
     (bif rnd1 s z r w k v p n then
      False
     else
      (bif decide (n > 2000) then
       False
      else
       (bif decide (n ≤ 0) then
        False
       else
        (Int.toNat n = List.length (opsS z v true (seed % 4294967296) (Int.toNat n)) ∧ Int.toNat n = List.length (opsS z v true (seed % 4294967296) (Int.toNat n)) ∧ capU = capU ∧ capU = capU ∧ opsS z v true (seed % 4294967296) (Int.toNat n) = opsS z v true (seed % 4294967296) (Int.toNat n) ∧ List.length (opsS z v true (seed % 4294967296) (Int.toNat n)) ≤ 1000000) ∧
        (Q (.bool true) []))))))))) := by kernel_rfl
theorem vc_rndf (s z r w k v p seed n : Int) (Q : Value → List (Option IObj) → Prop) : VCp XRn pfM 3 [] Q 4000 (st 3 47 [cfgV s z r w k v p, .int .u64 seed, .int .i64 n, .bool false] hp0) = (
 (bif decide (n > 300) then
  (bif decide (n ≤ 2000) then
   (Q (.bool true) [])
  else
   (seedIn seed) ∧
   (bif rnd1 s z r w k v p n then
    (seedIn seed) ∧
    (bif rnd1 s z r w k v p n then
     (Q (.bool true) [])
    else
     (bif decide (n > 2000) then
      (Q (.bool false) [])
     else
      (bif decide (n ≤ 0) then
       (Q (.bool false) [])
      else
       False)))
   else
    (bif decide (n > 2000) then
     (seedIn seed) ∧
     (bif rnd1 s z r w k v p n then
      (Q (.bool false) [])
     else
      (bif decide (n > 2000) then
       (Q (.bool true) [])
      else
       (bif decide (n ≤ 0) then
        (Q (.bool false) [])
       else
        False)))
    else
     (bif decide (n ≤ 0) then
      (seedIn seed) ∧
      (bif rnd1 s z r w k v p n then
       (Q (.bool false) [])
      else
       (bif decide (n > 2000) then
        (Q (.bool false) [])
       else
        (bif decide (n ≤ 0) then
         (Q (.bool true) [])
        else
         False)))
     else
      (seedIn seed) ∧
      (bif rnd1 s z r w k v p n then
       False
      else
       (bif decide (n > 2000) then
        False
       else
        (bif decide (n ≤ 0) then
         False
        else
         (Int.toNat n = List.length (opsS z v false (seed % 4294967296) (Int.toNat n)) ∧ Int.toNat n = List.length (opsS z v false (seed % 4294967296) (Int.toNat n)) ∧ capU = capU ∧ capU = capU ∧ opsS z v false (seed % 4294967296) (Int.toNat n) = opsS z v false (seed % 4294967296) (Int.toNat n) ∧ List.length (opsS z v false (seed % 4294967296) (Int.toNat n)) ≤ 1000000) ∧
         (Q (.bool true) []))))))))
 else
  (seedIn seed) ∧
  (bif rnd1 s z r w k v p n then
   (seedIn seed) ∧
   (bif rnd1 s z r w k v p n then
    (Q (.bool true) [])
   else
    (bif decide (n > 2000) then
     (Q (.bool false) [])
    else
     (bif decide (n ≤ 0) then
      (Q (.bool false) [])
     else
      False)))
  else
   (bif decide (n > 2000) then
    (seedIn seed) ∧
    (bif rnd1 s z r w k v p n then
     (Q (.bool false) [])
    else
     (bif decide (n > 2000) then
      (Q (.bool true) [])
     else
      (bif decide (n ≤ 0) then
       (Q (.bool false) [])
      else
       False)))
   else
    (bif decide (n ≤ 0) then
     (seedIn seed) ∧
     (bif rnd1 s z r w k v p n then
      (Q (.bool false) [])
     else
      (bif decide (n > 2000) then
       (Q (.bool false) [])
      else
       (bif decide (n ≤ 0) then
        (Q (.bool true) [])
       else
        False)))
    else
     (seedIn seed) ∧
     (bif rnd1 s z r w k v p n then
      False
     else
      (bif decide (n > 2000) then
       False
      else
       (bif decide (n ≤ 0) then
        False
       else
        (Int.toNat n = List.length (opsS z v false (seed % 4294967296) (Int.toNat n)) ∧ Int.toNat n = List.length (opsS z v false (seed % 4294967296) (Int.toNat n)) ∧ capU = capU ∧ capU = capU ∧ opsS z v false (seed % 4294967296) (Int.toNat n) = opsS z v false (seed % 4294967296) (Int.toNat n) ∧ List.length (opsS z v false (seed % 4294967296) (Int.toNat n)) ≤ 1000000) ∧
        (Q (.bool true) []))))))))) := by kernel_rfl
end Go.Ideal
