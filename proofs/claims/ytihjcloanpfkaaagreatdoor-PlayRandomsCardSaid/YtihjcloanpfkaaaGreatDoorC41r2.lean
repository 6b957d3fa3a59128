/-
  Part of the proof: the machine that runs a program by fixed orders, and that each of its runs is a run of the model; or a run of it in parts. No conditions.
-/
import Derived.Test.YtihjcloanpfkaaaGreatDoorC41r1
import Derived.Test.YtihjcloanpfkaaaGreatDoorAbr
set_option maxRecDepth 1000000
namespace Go.Ideal
open Go.Proofs
/-- Old blocks are changed, and a plain value is returned. -/
theorem tm_olds {laid : List (Nat × List Value)} {N m : Nat} {muts : List Bool} {v : Value} {Hf : IHeap} {olds : List (Option IObj)} (hv : flatN 6 v = true)
    (h : ∀ (j : Nat) (o : IObj), j < m → mutAt muts j = true → olds[j]? = some (some o) → ∃ o1, renO (TMatch.runOf laid N m []) o = some o1 ∧ Hf.get (N + j) = some o1) : TMatch laid N m muts ⟨v, olds, []⟩ v Hf :=
  ⟨[], List.nodup_nil, fun b hb => (by cases hb), rfl, ren_flat 6 v hv, fun j b o hj => (by cases hj), h⟩
theorem wrapU32 {x : Int} : IntKind.wrap .u32 x = x % 4294967296 := by
  show (if (false && decide (x % 4294967296 ≥ 2147483648)) = true then x % 4294967296 - 4294967296 else x % 4294967296) = x % 4294967296
  simp only [Bool.false_and, Bool.false_eq_true, if_false]
theorem nx_eq (x : Int) : IntKind.wrap .u32 (IntKind.wrap .u32 (69069 * x) + 1) = nx x := by
  rw [wrapU32, wrapU32]; unfold nx; omega
theorem sh16 : (2 : Int) ^ min 16 (IntKind.bits IntKind.u32) = 65536 := by decide
theorem fdiv_pos {a b : Int} (hb : 0 ≤ b) : Int.fdiv a b = a / b := Int.fdiv_eq_ediv_of_nonneg a hb
theorem dr_eq (x n : Int) (_ : 0 < n) : Int.tmod (IntKind.wrap .i64 (Int.fdiv (nx x) (2 ^ min 16 (IntKind.bits IntKind.u32)))) n = dr x n := by
  obtain ⟨h1, h2⟩ := nx_in x
  rw [sh16, fdiv_pos (by omega), wrap64 (by omega) (by omega), Int.tmod_eq_emod_of_nonneg (by omega)]
  rfl
noncomputable def belowG (args : List Value) (objs : List IObj) : GT := match args, objs with
  | [.pointer (some ⟨20, 0, none⟩), .int .i64 n], [.cells [.int .u32 x, .int .i64 s, .int .i64 z, .int .i64 r, .int .i64 w, .int .i64 k, .int .i64 v, .int .i64 p] 0 false] => .ask (0 < n) (.ret ⟨.int .i64 (dr x n), [some (dice (nx x) s z r w k v p)], []⟩)
  | _, _ => .fail
theorem get20 {o : IObj} : (hp0.alloc o).get 20 = some o := by rw [IHeap.get_alloc]; rfl
theorem iok_blw : IOk Tryz.prog tabLaid 50 (footF tabLaid 20 [true] belowG) := by
  refine iok_foot (fs := []) (AllOk.nil _ _) (by kernel_rfl) (n := 22) (by kernel_rfl) (by kernel_rfl) fun argsc objs x hx hro => ?_
  unfold belowG at hx
  split at hx
  · rename_i n x0 s z r w k v p
    simp only [GT.run] at hx
    split at hx
    · rename_i hn
      cases hx
      refine ⟨by simp, EndsN.mono (Q := fun v' Hf => v' = .int .i64 (dr x0 n) ∧ Hf.get 20 = some (dice (nx x0) s z r w k v p)) ?_ fun v' Hf h => ?_⟩
      · refine (VC_ok (ids := [20]) (Q := fun v' os => v' = .int .i64 (dr x0 n) ∧ os = [some (dice (nx x0) s z r w k v p)]) 1000 _ ?_).toN.mono fun v' Hf h => ⟨h.1, ?_⟩
        · show VC X0 50 [20] _ 1000 (st 50 22 [pd, .int .i64 n] (hp0.alloc (dice x0 s z r w k v p)))
          rw [vc_below]
          refine bif_decide (fun _ => ?_) (fun h => absurd (Int.ne_of_gt hn) h)
          rw [nx_eq, dr_eq x0 n hn]
          exact ⟨rfl, rfl⟩
        · have h2 := h.2
          rw [h.1] at h2
          simp only [List.map_append, List.map_cons, List.map_nil] at h2
          exact (List.cons.inj h2).1
      · obtain ⟨rfl, h2⟩ := h
        refine tm_olds (by rfl) fun j o hj _ ho => ?_
        have hj : j = 0 := by simpa using hj
        subst hj
        cases ho
        exact ⟨_, rfl, h2⟩
    · cases hx
  · cases hx
theorem nx_eq2 (x : Int) (h : u32In x) : Int.tmod (IntKind.wrap .u64 (IntKind.wrap .u64 (69069 * x) + 1)) 4294967296 = nx x := by
  obtain ⟨h1, h2⟩ := h
  rw [wrapU64 (x := 69069 * x) (by omega) (by omega), wrapU64 (by omega) (by omega), Int.tmod_eq_emod_of_nonneg (by omega)]
  rfl
theorem dr_eq2 (x n : Int) (_ : 0 < n) : Int.tmod (IntKind.wrap .i64 (IntKind.wrap .u64 (Int.tdiv (nx x) 65536))) n = dr x n := by
  obtain ⟨h1, h2⟩ := nx_in x
  rw [Int.tdiv_eq_ediv_of_nonneg h1, wrapU64 (by omega) (by omega), wrap64 (by omega) (by omega), Int.tmod_eq_emod_of_nonneg (by omega)]
  rfl
open Classical in
noncomputable def rbelowG (args : List Value) (objs : List IObj) : GT := match args, objs with
  | [.pointer (some ⟨20, 0, none⟩), .int .i64 n], [.cells [.int .u64 x, .int .i64 s, .int .i64 z, .int .i64 r, .int .i64 w, .int .i64 k, .int .i64 v, .int .i64 p, .bool cr] 0 false] => .ask (0 < n ∧ u32In x) (.ret ⟨.int .i64 (dr x n), [some (draws (nx x) s z r w k v p cr)], []⟩)
  | _, _ => .fail
theorem iok_rblw : IOk Tryz.prog tabLaid 52 (footF tabLaid 20 [true] rbelowG) := by
  refine iok_foot (fs := []) (AllOk.nil _ _) (by kernel_rfl) (n := 23) (by kernel_rfl) (by kernel_rfl) fun argsc objs x hx hro => ?_
  unfold rbelowG at hx
  split at hx
  · rename_i n x0 s z r w k v p cr
    simp only [GT.run] at hx
    split at hx
    · rename_i hn
      obtain ⟨hn, hx0⟩ := hn
      cases hx
      refine ⟨by simp, EndsN.mono (Q := fun v' Hf => v' = .int .i64 (dr x0 n) ∧ Hf.get 20 = some (draws (nx x0) s z r w k v p cr)) ?_ fun v' Hf h => ?_⟩
      · refine (VC_ok (ids := [20]) (Q := fun v' os => v' = .int .i64 (dr x0 n) ∧ os = [some (draws (nx x0) s z r w k v p cr)]) 1000 _ ?_).toN.mono fun v' Hf h => ⟨h.1, ?_⟩
        · show VC X0 52 [20] _ 1000 (st 52 23 [pd, .int .i64 n] (hp0.alloc (draws x0 s z r w k v p cr)))
          rw [vc_rbelow]
          refine bif_decide (fun _ => ?_) (fun h => absurd (Int.ne_of_gt hn) h)
          rw [nx_eq2 x0 hx0, dr_eq2 x0 n hn]
          exact ⟨rfl, rfl⟩
        · have h2 := h.2
          rw [h.1] at h2
          simp only [List.map_append, List.map_cons, List.map_nil] at h2
          exact (List.cons.inj h2).1
      · obtain ⟨rfl, h2⟩ := h
        refine tm_olds (by rfl) fun j o hj _ ho => ?_
        have hj : j = 0 := by simpa using hj
        subst hj
        cases ho
        exact ⟨_, rfl, h2⟩
    · cases hx
  · cases hx
end Go.Ideal
