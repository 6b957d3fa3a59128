/-
  Part of the proof: the machine that runs a program by fixed orders, and that each of its runs is a run of the model; or a run of it in parts. No conditions.
-/
import Derived.Test.YtihjcloanpfkaaaGreatDoorRepB41r
import Derived.Test.YtihjcloanpfkaaaGreatDoorIdVCs
/-! Pseudorandom scripts, in plain words. -/
namespace Go.Ideal
/-- The next state. -/
def nx (x : Int) : Int := (69069 * x + 1) % 4294967296
/-- What is drawn, below k. -/
def dr (x k : Int) : Int := (nx x / 65536) % k
def ltr (f v : Int) : ByteArray := ⟨⟨[UInt8.ofNat (f + v).toNat]⟩⟩
def repS (s : ByteArray) (n : Int) : ByteArray := ⟨⟨Go.Lib.repeatL s.data.toList n.toNat⟩⟩
def comma : ByteArray := ⟨⟨[44]⟩⟩
abbrev kOp : EK := [.int .i64, .int .i64, .int .i64, .str, .str]
/-- A crash is drawn: x is the state behind the kind. -/
def crS (z x : Int) : EK.C kOp × Int :=
  if dr (nx (nx x)) 3 = 0 then ((7, dr x 12, dr (nx x) 2, ByteArray.empty, joinB [decB (dr (nx (nx (nx x))) (z + 1))] comma), nx (nx (nx (nx x))))
  else if dr (nx (nx x)) 3 = 1 then ((7, dr x 12, dr (nx x) 2, ByteArray.empty, joinB [decB (dr (nx (nx (nx x))) (z + 1)), decB (dr (nx (nx (nx (nx x)))) (z + 1))] comma), nx (nx (nx (nx (nx x)))))
  else ((7, dr x 12, dr (nx x) 2, ByteArray.empty, joinB [decB (dr (nx (nx (nx x))) (z + 1)), decB (dr (nx (nx (nx (nx x)))) (z + 1)), decB (dr (nx (nx (nx (nx (nx x))))) (z + 1))] comma), nx (nx (nx (nx (nx (nx x))))))
/-- An operation is drawn: the operation, and the next state. -/
def opS (z v : Int) (cr : Bool) (x0 : Int) : EK.C kOp × Int :=
  let k := dr x0 20
  let x := nx x0
  if k < 9 then ((1, 0, 0, ltr 97 (dr x 8), repS (ltr 65 (dr (nx (nx x)) 26)) (dr (nx x) (v + 1))), nx (nx (nx x)))
  else if k < 12 then ((3, 0, 0, ltr 97 (dr x 8), ByteArray.empty), nx x)
  else if k < 15 then ((2, 0, 0, ltr 97 (dr x 8), ByteArray.empty), nx x)
  else if k < 16 then ((4, 0, 0, ByteArray.empty, ByteArray.empty), x)
  else if k < 17 then ((5, 0, 0, ByteArray.empty, ByteArray.empty), x)
  else if k < 18 then ((if cr then 8 else 5, 0, 0, ByteArray.empty, ByteArray.empty), x)
  else if k < 19 then ((6, 1 + dr x 2, 0, ByteArray.empty, ByteArray.empty), nx x)
  else if cr then crS z x
  else ((5, 0, 0, ByteArray.empty, ByteArray.empty), x)
/-- The state behind n operations. -/
def stS (z v : Int) (cr : Bool) (x : Int) : Nat → Int
  | 0 => x
  | n + 1 => (opS z v cr (stS z v cr x n)).2
/-- The first n operations. -/
def opsS (z v : Int) (cr : Bool) (x : Int) : Nat → List (EK.C kOp)
  | 0 => []
  | n + 1 => opsS z v cr x n ++ [(opS z v cr (stS z v cr x n)).1]
theorem opsS_length (z v : Int) (cr : Bool) (x : Int) : ∀ n, (opsS z v cr x n).length = n
  | 0 => rfl
  | n + 1 => by simp [opsS, opsS_length z v cr x n]
def u32In (x : Int) : Prop := 0 ≤ x ∧ x < 4294967296
theorem nx_in (x : Int) : u32In (nx x) := by unfold nx u32In; omega
theorem dr_in (x k : Int) (h : 0 < k) : 0 ≤ dr x k ∧ dr x k < k := ⟨Int.emod_nonneg _ (by omega), Int.emod_lt_of_pos _ h⟩
theorem crS_in (z x : Int) : u32In (crS z x).2 := by
  unfold crS
  split
  · exact nx_in _
  · split <;> exact nx_in _
theorem opS_in (z v : Int) (cr : Bool) (x : Int) : u32In (opS z v cr x).2 := by
  unfold opS
  simp only
  repeat' split
  all_goals first | exact nx_in _ | exact crS_in _ _
theorem stS_in (z v : Int) (cr : Bool) (x : Int) (h : u32In x) : ∀ n, u32In (stS z v cr x n)
  | 0 => h
  | _ + 1 => opS_in _ _ _ _
theorem ba_app (a b : List UInt8) : (⟨⟨a⟩⟩ : ByteArray) ++ ⟨⟨b⟩⟩ = ⟨⟨a ++ b⟩⟩ := by
  apply ByteArray.ext
  rw [ByteArray.data_append]
  simp
theorem decB_small {n : Int} (h0 : 0 ≤ n) (h : n < 10) : decB n = ltr 48 n := by
  unfold decB ltr
  rw [Go.Lib.decDigits, dif_pos (by omega), show (48 + n).toNat = 48 + n.toNat by omega]
theorem decB_big {n : Int} (h : 10 ≤ n) : decB n = decB (n / 10) ++ ltr 48 (n % 10) := by
  unfold decB ltr
  rw [Go.Lib.decDigits, dif_neg (by omega), ba_app, show (n / 10).toNat = n.toNat / 10 by omega, show (48 + n % 10).toNat = 48 + n.toNat % 10 by omega]
theorem ltr_size (f v : Int) : (ltr f v).size = 1 := rfl
theorem decB_size : ∀ (m : Nat) (n : Int), n < 10 ^ m → (decB n).size ≤ m + 1
  | 0, n, h => by
    unfold decB
    rw [Go.Lib.decDigits, dif_pos (by omega)]
    exact Nat.le_refl _
  | m + 1, n, h => by
    rcases Int.lt_or_le n 10 with hn | hn
    · unfold decB
      rw [Go.Lib.decDigits, dif_pos (by omega)]
      show 1 ≤ _
      omega
    · rw [decB_big hn, ByteArray.size_append, ltr_size]
      have h2 : (10 : Int) ^ (m + 1) = 10 ^ m * 10 := Int.pow_succ _ _
      have := decB_size m (n / 10) (by rw [h2] at h; omega)
      omega
theorem joinB_one (a sep : ByteArray) : joinB [a] sep = a := by
  unfold joinB
  simp only [List.map_cons, List.map_nil, Go.Lib.join_one]
theorem joinB_two (a b sep : ByteArray) : joinB [a, b] sep = a ++ sep ++ b := by
  unfold joinB Go.Lib.join
  apply ByteArray.ext
  apply Array.ext'
  simp [List.intercalate, ByteArray.data_append]
theorem joinB_three (a b c sep : ByteArray) : joinB [a, b, c] sep = a ++ sep ++ b ++ sep ++ c := by
  unfold joinB Go.Lib.join
  apply ByteArray.ext
  apply Array.ext'
  simp [List.intercalate, ByteArray.data_append]
end Go.Ideal
