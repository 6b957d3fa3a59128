/-
  Part of the proof: the machine that runs a program by fixed orders, and that each of its runs is a run of the model; or a run of it in parts. No conditions.
-/
import Derived.Test.YtihjcloanpfkaaaGreatDoorC41d
set_option maxRecDepth 1000000
namespace Go.Ideal
open Go.Proofs
theorem dig_ends (n : Int) (h : 0 ≤ n ∧ n ≤ 16) : EndsN X0 20 36 (fun v _ => v = .string (dgs n)) (st 36 16 [.int .u64 n] hp0) := by
  have hc : n = 0 ∨ n = 1 ∨ n = 2 ∨ n = 3 ∨ n = 4 ∨ n = 5 ∨ n = 6 ∨ n = 7 ∨ n = 8 ∨ n = 9 ∨ n = 10 ∨ n = 11 ∨ n = 12 ∨ n = 13 ∨ n = 14 ∨ n = 15 ∨ n = 16 := by omega
  rcases hc with rfl | rfl | rfl | rfl | rfl | rfl | rfl | rfl | rfl | rfl | rfl | rfl | rfl | rfl | rfl | rfl | rfl
  · refine (VC_ok (ids := []) (Q := fun v _ => v = .string (dgs 0)) 3000 _ ?_).toN
    rw [vc_dig0]
    kernel_rfl
  · refine (VC_ok (ids := []) (Q := fun v _ => v = .string (dgs 1)) 3000 _ ?_).toN
    rw [vc_dig1]
    kernel_rfl
  · refine (VC_ok (ids := []) (Q := fun v _ => v = .string (dgs 2)) 3000 _ ?_).toN
    rw [vc_dig2]
    kernel_rfl
  · refine (VC_ok (ids := []) (Q := fun v _ => v = .string (dgs 3)) 3000 _ ?_).toN
    rw [vc_dig3]
    kernel_rfl
  · refine (VC_ok (ids := []) (Q := fun v _ => v = .string (dgs 4)) 3000 _ ?_).toN
    rw [vc_dig4]
    kernel_rfl
  · refine (VC_ok (ids := []) (Q := fun v _ => v = .string (dgs 5)) 3000 _ ?_).toN
    rw [vc_dig5]
    kernel_rfl
  · refine (VC_ok (ids := []) (Q := fun v _ => v = .string (dgs 6)) 3000 _ ?_).toN
    rw [vc_dig6]
    kernel_rfl
  · refine (VC_ok (ids := []) (Q := fun v _ => v = .string (dgs 7)) 3000 _ ?_).toN
    rw [vc_dig7]
    kernel_rfl
  · refine (VC_ok (ids := []) (Q := fun v _ => v = .string (dgs 8)) 3000 _ ?_).toN
    rw [vc_dig8]
    kernel_rfl
  · refine (VC_ok (ids := []) (Q := fun v _ => v = .string (dgs 9)) 3000 _ ?_).toN
    rw [vc_dig9]
    kernel_rfl
  · refine (VC_ok (ids := []) (Q := fun v _ => v = .string (dgs 10)) 3000 _ ?_).toN
    rw [vc_dig10]
    kernel_rfl
  · refine (VC_ok (ids := []) (Q := fun v _ => v = .string (dgs 11)) 3000 _ ?_).toN
    rw [vc_dig11]
    kernel_rfl
  · refine (VC_ok (ids := []) (Q := fun v _ => v = .string (dgs 12)) 3000 _ ?_).toN
    rw [vc_dig12]
    kernel_rfl
  · refine (VC_ok (ids := []) (Q := fun v _ => v = .string (dgs 13)) 3000 _ ?_).toN
    rw [vc_dig13]
    kernel_rfl
  · refine (VC_ok (ids := []) (Q := fun v _ => v = .string (dgs 14)) 3000 _ ?_).toN
    rw [vc_dig14]
    kernel_rfl
  · refine (VC_ok (ids := []) (Q := fun v _ => v = .string (dgs 15)) 3000 _ ?_).toN
    rw [vc_dig15]
    kernel_rfl
  · refine (VC_ok (ids := []) (Q := fun v _ => v = .string (dgs 16)) 3000 _ ?_).toN
    rw [vc_dig16]
    kernel_rfl
theorem ito_ends (n : Int) (h : 0 ≤ n ∧ n ≤ 16) : EndsN X0 20 32 (fun v _ => v = .string (dgs n)) (st 32 5 [.int .i64 n] hp0) := by
  have hc : n = 0 ∨ n = 1 ∨ n = 2 ∨ n = 3 ∨ n = 4 ∨ n = 5 ∨ n = 6 ∨ n = 7 ∨ n = 8 ∨ n = 9 ∨ n = 10 ∨ n = 11 ∨ n = 12 ∨ n = 13 ∨ n = 14 ∨ n = 15 ∨ n = 16 := by omega
  rcases hc with rfl | rfl | rfl | rfl | rfl | rfl | rfl | rfl | rfl | rfl | rfl | rfl | rfl | rfl | rfl | rfl | rfl
  · refine (VC_ok (ids := []) (Q := fun v _ => v = .string (dgs 0)) 3000 _ ?_).toN
    rw [vc_ito0]
    kernel_rfl
  · refine (VC_ok (ids := []) (Q := fun v _ => v = .string (dgs 1)) 3000 _ ?_).toN
    rw [vc_ito1]
    kernel_rfl
  · refine (VC_ok (ids := []) (Q := fun v _ => v = .string (dgs 2)) 3000 _ ?_).toN
    rw [vc_ito2]
    kernel_rfl
  · refine (VC_ok (ids := []) (Q := fun v _ => v = .string (dgs 3)) 3000 _ ?_).toN
    rw [vc_ito3]
    kernel_rfl
  · refine (VC_ok (ids := []) (Q := fun v _ => v = .string (dgs 4)) 3000 _ ?_).toN
    rw [vc_ito4]
    kernel_rfl
  · refine (VC_ok (ids := []) (Q := fun v _ => v = .string (dgs 5)) 3000 _ ?_).toN
    rw [vc_ito5]
    kernel_rfl
  · refine (VC_ok (ids := []) (Q := fun v _ => v = .string (dgs 6)) 3000 _ ?_).toN
    rw [vc_ito6]
    kernel_rfl
  · refine (VC_ok (ids := []) (Q := fun v _ => v = .string (dgs 7)) 3000 _ ?_).toN
    rw [vc_ito7]
    kernel_rfl
  · refine (VC_ok (ids := []) (Q := fun v _ => v = .string (dgs 8)) 3000 _ ?_).toN
    rw [vc_ito8]
    kernel_rfl
  · refine (VC_ok (ids := []) (Q := fun v _ => v = .string (dgs 9)) 3000 _ ?_).toN
    rw [vc_ito9]
    kernel_rfl
  · refine (VC_ok (ids := []) (Q := fun v _ => v = .string (dgs 10)) 3000 _ ?_).toN
    rw [vc_ito10]
    kernel_rfl
  · refine (VC_ok (ids := []) (Q := fun v _ => v = .string (dgs 11)) 3000 _ ?_).toN
    rw [vc_ito11]
    kernel_rfl
  · refine (VC_ok (ids := []) (Q := fun v _ => v = .string (dgs 12)) 3000 _ ?_).toN
    rw [vc_ito12]
    kernel_rfl
  · refine (VC_ok (ids := []) (Q := fun v _ => v = .string (dgs 13)) 3000 _ ?_).toN
    rw [vc_ito13]
    kernel_rfl
  · refine (VC_ok (ids := []) (Q := fun v _ => v = .string (dgs 14)) 3000 _ ?_).toN
    rw [vc_ito14]
    kernel_rfl
  · refine (VC_ok (ids := []) (Q := fun v _ => v = .string (dgs 15)) 3000 _ ?_).toN
    rw [vc_ito15]
    kernel_rfl
  · refine (VC_ok (ids := []) (Q := fun v _ => v = .string (dgs 16)) 3000 _ ?_).toN
    rw [vc_ito16]
    kernel_rfl
open Classical in
noncomputable def digG (args : List Value) (objs : List IObj) : GT := match args, objs with
  | [.int .u64 n], [] => .ask (0 ≤ n ∧ n ≤ 16) (.ret ⟨.string (dgs n), [], []⟩)
  | _, _ => .fail
theorem dig_foot (args : List Value) (H : IHeap) (r : Value × IHeap) (h : fDigU dgs args H = some r) : footF tabLaid 20 [] digG args H = some r := by
  unfold fDigU at h
  split at h
  · rename_i n
    split at h
    · rename_i hc
      cases h
      have e : footF tabLaid 20 [] digG [.int .u64 n] H = match (digG [.int .u64 n] []).run with | some x => footEnd tabLaid 20 [] [] H x | none => none := rfl
      rw [e]
      unfold digG
      simp only [GT.run, if_pos hc]
      rfl
    · cases h
  · cases h
theorem iok_dig : IOk Tryz.prog tabLaid 36 (fDigU dgs) :=
  IOk.sub (iok_foot (fs := []) (AllOk.nil _ _) (by kernel_rfl) (n := 16) (N := 20) (muts := []) (G := digG) (by kernel_rfl) rfl fun argsc objs x hx _ => by
    unfold digG at hx
    split at hx
    · rename_i n _
      simp only [GT.run] at hx
      split at hx
      · rename_i hc
        cases hx
        refine ⟨by simp, EndsN.mono (dig_ends n hc) fun v H h => ?_⟩
        subst h
        exact tm_plain (by rfl)
      · cases hx
    · cases hx) dig_foot
open Classical in
noncomputable def itoG (args : List Value) (objs : List IObj) : GT := match args, objs with
  | [.int .i64 n], [] => .ask (0 ≤ n ∧ n ≤ 16) (.ret ⟨.string (dgs n), [], []⟩)
  | _, _ => .fail
theorem ito_foot (args : List Value) (H : IHeap) (r : Value × IHeap) (h : fDigI dgs args H = some r) : footF tabLaid 20 [] itoG args H = some r := by
  unfold fDigI at h
  split at h
  · rename_i n
    split at h
    · rename_i hc
      cases h
      have e : footF tabLaid 20 [] itoG [.int .i64 n] H = match (itoG [.int .i64 n] []).run with | some x => footEnd tabLaid 20 [] [] H x | none => none := rfl
      rw [e]
      unfold itoG
      simp only [GT.run, if_pos hc]
      rfl
    · cases h
  · cases h
theorem iok_ito : IOk Tryz.prog tabLaid 32 (fDigI dgs) :=
  IOk.sub (iok_foot (fs := []) (AllOk.nil _ _) (by kernel_rfl) (n := 5) (N := 20) (muts := []) (G := itoG) (by kernel_rfl) rfl fun argsc objs x hx _ => by
    unfold itoG at hx
    split at hx
    · rename_i n _
      simp only [GT.run] at hx
      split at hx
      · rename_i hc
        cases hx
        refine ⟨by simp, EndsN.mono (ito_ends n hc) fun v H h => ?_⟩
        subst h
        exact tm_plain (by rfl)
      · cases hx
    · cases hx) ito_foot
theorem tx_eq : fTx vstr verr = fTxt := rfl
theorem iok_txt' : IOk Tryz.prog tabLaid 30 (fTx vstr verr) := iok_txt
theorem iok_rtx' : IOk Tryz.prog tabLaid 35 (fTx vstr verr) := iok_rtx
end Go.Ideal
