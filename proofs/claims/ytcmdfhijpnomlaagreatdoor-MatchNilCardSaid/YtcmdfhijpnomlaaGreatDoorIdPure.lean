/-
  Part of the proof: the machine that runs a program by fixed orders, and that each of its runs is a run of the model; or a run of it in parts. No conditions.
-/
import Derived.Test.YtcmdfhijpnomlaaGreatDoorIdRow
import Derived.Test.YtcmdfhijpnomlaaGreatDoorAbr
namespace Go.Ideal
theorem laidVars_at {P : Program} {w : World} : ∀ (laid : List (String × DataW Unit)) (ps : List MemPlace), DataW.LaidVars P w laid ps → ∀ (n : Nat) (x : String × DataW Unit) (p : Nat × List Value), laid[n]? = some x → laidOf P x = some p → ∃ a t fz, w.heap[p.1]? = some (.cells a t fz) ∧ a.toList = p.2 := by
  intro laid
  induction laid with
  | nil => intro ps _ n x p hx; simp at hx
  | cons y laid ih =>
    intro ps hl n x p hx h0
    obtain ⟨nm, d⟩ := y
    obtain ⟨g, t, cs, fuel, p1, q1, h1, h2, h3, h4, h5, _⟩ := hl
    cases n with
    | zero =>
      simp only [List.getElem?_cons_zero, Option.some.injEq] at hx
      subst hx
      simp only [laidOf, h1, Option.bind_some, h2, Option.map_eq_some_iff] at h0
      obtain ⟨l, hl, rfl⟩ := h0
      simp only [World.var?, h1, Option.bind_some] at h3
      split at h3
      · rename_i cs' t' fz hh
        cases h3
        exact ⟨_, _, _, hh, back_ok 12 fuel t _ d p1 l h4 hl⟩
      · cases h3
    | succ n => exact ih q1 h5 n x p (by simpa using hx) h0
theorem laidW_at {X : Ctx} {laid : List (String × DataW Unit)} {W : World} (hL : laidMetH X.P laid W) (hp : (laid.all fun x => x.2.handleName?.isNone) = true) (ns : List Nat) (hm : (ns.map fun n => (laid[n]?).bind (laidOf X.P)) = X.laid.map some) (hnd : (X.laid.map Prod.fst).Nodup) (hf : (X.laid.all fun p => p.2.all flat) = true) : LaidW X (env0 W) W := by
  rw [MakeChecks.laidMetH_plain _ _ _ hp] at hL
  obtain ⟨ps, h1, _⟩ := hL
  refine ⟨hnd, fun p hp => ?_⟩
  have hmem : some p ∈ ns.map fun n => (laid[n]?).bind (laidOf X.P) := by rw [hm]; exact List.mem_map_of_mem hp
  obtain ⟨n, _, hn⟩ := List.mem_map.1 hmem
  rw [Option.bind_eq_some_iff] at hn
  obtain ⟨x, hx, hxp⟩ := hn
  obtain ⟨a, t, fz, h2, h3⟩ := laidVars_at laid ps h1 n x p hx hxp
  refine ⟨?_, List.all_eq_true.1 hf p hp, a, t, fz, h2, h3⟩
  exact (Array.getElem?_eq_some_iff.1 h2).1
end Go.Ideal

namespace Go.Ideal
theorem wrap64 {x : Int} (h1 : -9223372036854775808 ≤ x) (h2 : x ≤ 9223372036854775807) : IntKind.wrap .i64 x = x := by
  show (if (true && decide (x % 18446744073709551616 ≥ 9223372036854775808)) = true then x % 18446744073709551616 - 18446744073709551616 else x % 18446744073709551616) = x
  simp only [Bool.true_and, decide_eq_true_eq]
  split <;> omega
theorem bif_decide {p : Prop} [Decidable p] {A B : Prop} (h1 : p → A) (h2 : ¬ p → B) : (bif decide p then A else B) := by
  by_cases h : p
  · rw [decide_eq_true h]; exact h1 h
  · rw [decide_eq_false h]; exact h2 h
theorem bif_true {b : Bool} {A B : Prop} (h : b = true) (h1 : A) : (bif b then A else B) := by rw [h]; exact h1
theorem bif_false {b : Bool} {A B : Prop} (h : b = false) (h1 : B) : (bif b then A else B) := by rw [h]; exact h1
theorem bif_both {b : Bool} {A B : Prop} (h1 : b = true → A) (h2 : b = false → B) : (bif b then A else B) := by
  cases b
  · exact h2 rfl
  · exact h1 rfl
theorem heap0_nil (n : Nat) : heap0 [] n = ⟨.leaf, n⟩ := rfl
end Go.Ideal
