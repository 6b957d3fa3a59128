/-
  Part of the proof: the machine that runs a program by fixed orders, and that each of its runs is a run of the model; or a run of it in parts. No conditions.
-/
import Derived.Test.YtfeammikiohoeaaGreatDoorAbr
namespace Go.Ideal
theorem wrap64 {x : Int} (h1 : -9223372036854775808 ≤ x) (h2 : x ≤ 9223372036854775807) : IntKind.wrap .i64 x = x := by
  show (if (true && decide (x % 18446744073709551616 ≥ 9223372036854775808)) = true then x % 18446744073709551616 - 18446744073709551616 else x % 18446744073709551616) = x
  simp only [Bool.true_and, decide_eq_true_eq]
  split <;> omega
theorem bif_decide {p : Prop} [Decidable p] {A B : Prop} (h1 : p → A) (h2 : ¬ p → B) : (bif decide p then A else B) := by
  by_cases h : p
  · rw [decide_eq_true h]; exact h1 h
  · rw [decide_eq_false h]; exact h2 h
theorem bif_true {b : Bool} {A B : Prop} (h : b = true) (h1 : A) : (bif b then A else B) := by rw [h]; exact h1
theorem bif_false {b : Bool} {A B : Prop} (h : b = false) (h1 : B) : (bif b then A else B) := by rw [h]; exact h1
theorem bif_both {b : Bool} {A B : Prop} (h1 : b = true → A) (h2 : b = false → B) : (bif b then A else B) := by
  cases b
  · exact h2 rfl
  · exact h1 rfl
theorem heap0_nil (n : Nat) : heap0 [] n = ⟨.leaf, n⟩ := rfl
end Go.Ideal
