/-
  Part of the proof: the machine that runs a program by fixed orders, and that each of its runs is a run of the model; or a run of it in parts. No conditions.
-/
import Derived.Test.YtfgamdmnljnonaaGreatDoorC41r17
set_option maxRecDepth 100000
namespace Go.Ideal
abbrev kES : EK := [.int .i64, .str]
def dgs (n : Int) : ByteArray := if n < 10 then ⟨#[UInt8.ofNat (48 + n.toNat)]⟩ else ⟨#[49, UInt8.ofNat (38 + n.toNat)]⟩
def posB (x : EK.C kES) : Prop := 0 ≤ x.1 ∧ x.1 ≤ 16 ∧ x.2.size ≤ 512 ∧ (x.1 = 0 ∨ x.2.size = 0)
noncomputable def lineB (x : EK.C kES) : ByteArray := dgs x.1 ++ { data := #[32] } ++ vstr x.2 ++ { data := #[10] }
noncomputable def catB : List (EK.C kES) → List UInt8
  | [] => []
  | x :: l => (lineB x).data.toList ++ catB l
theorem catB_append (a b : List (EK.C kES)) : catB (a ++ b) = catB a ++ catB b := by
  induction a with
  | nil => rfl
  | cons x a ih => simp [catB, ih]
theorem catB_take (l : List (EK.C kES)) (i : Nat) (h : i < l.length) : catB (l.take (i + 1)) = catB (l.take i) ++ (lineB l[i]).data.toList := by
  rw [List.take_succ_eq_append_getElem h, catB_append]
  simp [catB]
theorem catB_le (l : List (EK.C kES)) (i : Nat) : (catB (l.take i)).length ≤ (catB l).length := by
  have h : catB l = catB (l.take i) ++ catB (l.drop i) := by rw [← catB_append, List.take_append_drop]
  rw [h, List.length_append]; omega
theorem ba_size (s : ByteArray) : s.size = s.data.toList.length := (Array.length_toList).symm
theorem ba_append (a b : ByteArray) : (a ++ b).data.toList = a.data.toList ++ b.data.toList := by
  rw [ByteArray.data_append, Array.toList_append]
theorem vstr_size (s : ByteArray) : (vstr s).size ≤ 1024 := by
  unfold vstr
  split
  · exact Nat.zero_le _
  · split
    · show 1 ≤ 1024; omega
    · rw [ba_size]
      unfold bytesV
      show ((hexOf (strInts s)).map fun n => UInt8.ofNat n.toNat).length ≤ 1024
      rw [List.length_map, hexOf_length, strInts_length]; omega
theorem dgs_size (n : Int) : (dgs n).size ≤ 2 := by
  unfold dgs
  split
  · show 1 ≤ 2; omega
  · show 2 ≤ 2; omega
theorem lineB_size (x : EK.C kES) : (lineB x).size ≤ 1028 := by
  unfold lineB
  rw [ByteArray.size_append, ByteArray.size_append, ByteArray.size_append]
  have h1 := vstr_size x.2
  have h2 := dgs_size x.1
  have h3 : ByteArray.size { data := #[32] } = 1 := rfl
  have h4 : ByteArray.size { data := #[10] } = 1 := rfl
  omega
theorem catB_size : ∀ l : List (EK.C kES), (catB l).length ≤ 1028 * l.length
  | [] => by simp [catB]
  | x :: l => by
    have h1 := catB_size l
    have h2 := lineB_size x
    rw [ba_size] at h2
    rw [show catB (x :: l) = (lineB x).data.toList ++ catB l from rfl, List.length_append, List.length_cons]
    omega
open Classical in
noncomputable def ptS (l : List (EK.C kES)) : ByteArray := if l.length > 2000 then ⟨#[]⟩ else if ∀ x ∈ l, posB x then if (catB l).length > 65536 then ⟨#[]⟩ else ⟨⟨catB l⟩⟩ else ⟨#[]⟩
open Classical in
noncomputable def ptE (l : List (EK.C kES)) (many arg long : Int) : Int := if l.length > 2000 then many else if ∀ x ∈ l, posB x then if (catB l).length > 65536 then long else 0 else arg
end Go.Ideal
