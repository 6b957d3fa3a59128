/-
  Part of the proof: the machine that runs a program by fixed orders, and that each of its runs is a run of the model; or a run of it in parts. No conditions.
-/
import Derived.Test.YtihjcloanpfkaaaGreatDoorIdVCs
import Derived.Test.YtihjcloanpfkaaaGreatDoorIdSim2
set_option maxRecDepth 100000
namespace Go.Ideal
abbrev digs : ByteArray := { data := #[48, 49, 50, 51, 52, 53, 54, 55, 56, 57, 97, 98, 99, 100, 101, 102] }
/-- The two hexadecimal digits of a byte. -/
def hx2 (x : Int) : List Int := [strAt digs (Int.toNat (Int.tdiv x 16)), strAt digs (Int.toNat (Int.tmod x 16))]
def hexOf (l : List Int) : List Int := l.flatMap hx2
def inB (x : Int) : Prop := 0 ≤ x ∧ x < 256
theorem byte_all {p : Int → Prop} [∀ x, Decidable (p x)] (h : (∀ n : _root_.Fin 256, p (n.1 : Int))) {x : Int} (hx : inB x) : p x := by
  obtain ⟨h0, h1⟩ := hx
  have := h ⟨x.toNat, by omega⟩
  rwa [show ((x.toNat : Nat) : Int) = x by omega] at this
theorem hx2_shift {x : Int} (hx : inB x) : [strAt digs (Int.toNat (Int.fdiv x (2 ^ min 4 (IntKind.bits IntKind.u8)))), strAt digs (Int.toNat (IntKind.wrap IntKind.u8 ↑(BitVec.toNat (BitVec.ofInt (IntKind.bits IntKind.u8) x &&& BitVec.ofInt (IntKind.bits IntKind.u8) 15))))] = hx2 x :=
  byte_all (p := fun x => [strAt digs (Int.toNat (Int.fdiv x (2 ^ min 4 (IntKind.bits IntKind.u8)))), strAt digs (Int.toNat (IntKind.wrap IntKind.u8 ↑(BitVec.toNat (BitVec.ofInt (IntKind.bits IntKind.u8) x &&& BitVec.ofInt (IntKind.bits IntKind.u8) 15))))] = hx2 x) (by decide +kernel) hx
theorem shift_ok {x : Int} (hx : inB x) : (decide (0 ≤ Int.fdiv x (2 ^ min 4 (IntKind.bits IntKind.u8))) && Nat.blt (Int.toNat (Int.fdiv x (2 ^ min 4 (IntKind.bits IntKind.u8)))) (ByteArray.size digs)) = true :=
  byte_all (p := fun x => (decide (0 ≤ Int.fdiv x (2 ^ min 4 (IntKind.bits IntKind.u8))) && Nat.blt (Int.toNat (Int.fdiv x (2 ^ min 4 (IntKind.bits IntKind.u8)))) (ByteArray.size digs)) = true) (by decide +kernel) hx
theorem mask_ok {x : Int} (hx : inB x) : (decide (0 ≤ IntKind.wrap IntKind.u8 ↑(BitVec.toNat (BitVec.ofInt (IntKind.bits IntKind.u8) x &&& BitVec.ofInt (IntKind.bits IntKind.u8) 15))) && Nat.blt (Int.toNat (IntKind.wrap IntKind.u8 ↑(BitVec.toNat (BitVec.ofInt (IntKind.bits IntKind.u8) x &&& BitVec.ofInt (IntKind.bits IntKind.u8) 15)))) (ByteArray.size digs)) = true :=
  byte_all (p := fun x => (decide (0 ≤ IntKind.wrap IntKind.u8 ↑(BitVec.toNat (BitVec.ofInt (IntKind.bits IntKind.u8) x &&& BitVec.ofInt (IntKind.bits IntKind.u8) 15))) && Nat.blt (Int.toNat (IntKind.wrap IntKind.u8 ↑(BitVec.toNat (BitVec.ofInt (IntKind.bits IntKind.u8) x &&& BitVec.ofInt (IntKind.bits IntKind.u8) 15)))) (ByteArray.size digs)) = true) (by decide +kernel) hx
theorem quo_ok {x : Int} (hx : inB x) : (decide (0 ≤ IntKind.wrap IntKind.u8 (Int.tdiv x 16)) && Nat.blt (Int.toNat (IntKind.wrap IntKind.u8 (Int.tdiv x 16))) (ByteArray.size digs)) = true ∧ IntKind.wrap IntKind.u8 (Int.tdiv x 16) = Int.tdiv x 16 :=
  byte_all (p := fun x => (decide (0 ≤ IntKind.wrap IntKind.u8 (Int.tdiv x 16)) && Nat.blt (Int.toNat (IntKind.wrap IntKind.u8 (Int.tdiv x 16))) (ByteArray.size digs)) = true ∧ IntKind.wrap IntKind.u8 (Int.tdiv x 16) = Int.tdiv x 16) (by decide +kernel) hx
theorem rem_ok {x : Int} (hx : inB x) : (decide (0 ≤ Int.tmod x 16) && Nat.blt (Int.toNat (Int.tmod x 16)) (ByteArray.size digs)) = true :=
  byte_all (p := fun x => (decide (0 ≤ Int.tmod x 16) && Nat.blt (Int.toNat (Int.tmod x 16)) (ByteArray.size digs)) = true) (by decide +kernel) hx
theorem strAt_in (s : ByteArray) (i : Nat) : inB (strAt s i) := by
  unfold strAt inB
  have := (s.data.toList.getD i 0).toNat_lt
  omega
theorem strInts_getD (s : ByteArray) (i : Nat) (h : i < s.size) : List.getD (strInts s) i 0 = strAt s i := by
  unfold strInts strAt
  have : i < s.data.toList.length := by simpa using h
  rw [List.getD_eq_getElem?_getD, List.getD_eq_getElem?_getD, List.getElem?_map, List.getElem?_eq_getElem this]
  rfl
theorem hexOf_length : ∀ l : List Int, (hexOf l).length = 2 * l.length
  | [] => rfl
  | x :: l => by
    have := hexOf_length l
    unfold hexOf at this ⊢
    rw [List.flatMap_cons, List.length_append, this]
    simp [hx2]; omega
theorem hexOf_take (s : ByteArray) (i : Nat) (h : i < s.size) : hexOf ((strInts s).take (i + 1)) = hexOf ((strInts s).take i) ++ hx2 (strAt s i) := by
  have hl : i < (strInts s).length := by rw [strInts_length]; exact h
  rw [List.take_succ_eq_append_getElem hl]
  unfold hexOf
  rw [List.flatMap_append, List.flatMap_singleton]
  have := strInts_getD s i h
  rw [List.getD_eq_getElem?_getD, List.getElem?_eq_getElem hl] at this
  rw [← this]; rfl
/-- What value.Text gives. -/
noncomputable def vstr (s : ByteArray) : ByteArray := if s.size > 512 then ⟨#[]⟩ else if s.size = 0 then ⟨#[45]⟩ else bytesV (hexOf (strInts s))
def verr (s : ByteArray) : Int := if s.size > 512 then 12 else 0
noncomputable def vtxt (s : ByteArray) : Value := .tuple ⟨[.string (vstr s), .int .i64 (verr s)]⟩
end Go.Ideal
