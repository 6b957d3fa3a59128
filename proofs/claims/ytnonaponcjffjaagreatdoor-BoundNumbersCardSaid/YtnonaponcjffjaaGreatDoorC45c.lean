/-
  Part of the proof: the machine that runs a program by fixed orders, and that each of its runs is a run of the model; or a run of it in parts. No conditions.
-/
import Derived.Test.YtnonaponcjffjaaGreatDoorC45b
set_option maxRecDepth 1000000
namespace Go.Ideal
open Go.Proofs
theorem iok_7 {f : FuncId} {n : Nat} {h : V7} (he : entry Tryz.prog f = some (n, pcOf Tryz.prog f [])) (hn : 1 ≤ n) (hf : ∀ s z r w k v p, flat (h s z r w k v p) = true)
    (hE : ∀ s z r w k v p, EndsIn (XC cfgErr) f (fun v' _ => v' = h s z r w k v p) (st f n [cfgV s z r w k v p] (heap0 tabLaid 20))) : IOk Tryz.prog tabLaid f (f7 h) :=
  iok_pure (fs := [(43, fConf cfgErr), (21, fConf cfgErr)]) allC (by kernel_rfl) (n := n) (N := 20) he (by kernel_rfl) (fun args v q => by
    split at q
    · rename_i s z r w k v0 p
      cases q
      exact ⟨rfl, by simpa using hn, hf _ _ _ _ _ _ _, hE s z r w k v0 p⟩
    · cases q)
theorem iok_8 {f : FuncId} {n : Nat} {h : V8} (he : entry Tryz.prog f = some (n, pcOf Tryz.prog f [])) (hn : 2 ≤ n) (hf : ∀ s z r w k v p c, flat (h s z r w k v p c) = true)
    (hE : ∀ s z r w k v p c, EndsIn (XC cfgErr) f (fun v' _ => v' = h s z r w k v p c) (st f n [cfgV s z r w k v p, .int .i64 c] (heap0 tabLaid 20))) : IOk Tryz.prog tabLaid f (f8 h) :=
  iok_pure (fs := [(43, fConf cfgErr), (21, fConf cfgErr)]) allC (by kernel_rfl) (n := n) (N := 20) he (by kernel_rfl) (fun args v q => by
    split at q
    · rename_i s z r w k v0 p c
      cases q
      exact ⟨rfl, by simpa using hn, hf _ _ _ _ _ _ _ _, hE s z r w k v0 p c⟩
    · cases q)
noncomputable abbrev XNum : Ctx := XM entA cfgErr vicA cfgErr segA segE
theorem allM (hw : KnownOk Tryz.prog tabLaid wrkK) : AllOk Tryz.prog tabLaid [(12, knownF wrkK), (6, f7 fun s z r w k v p => t2 (entA s z r w k v p) (cfgErr s z r w k v p)), (7, f7 fun s z r w k v p => t2 (entA s z r w k v p) (cfgErr s z r w k v p)),
  (8, f7 fun s z r w k v p => t2 (vicA s z r w k v p) (cfgErr s z r w k v p)), (9, f7 fun s z r w k v p => t2 (vicA s z r w k v p) (cfgErr s z r w k v p)),
  (10, f8 fun s z r w k v p x => t2 (segA x s z r w k v p) (segE x s z r w k v p)), (11, f8 fun s z r w k v p x => t2 (segA x s z r w k v p) (segE x s z r w k v p))] :=
  AllOk.cons (iok_known hw) (AllOk.cons (iok_7 (n := 9) (by kernel_rfl) (by decide) (fun _ _ _ _ _ _ _ => rfl) ent_ends) (AllOk.cons (iok_7 (n := 24) (by kernel_rfl) (by decide) (fun _ _ _ _ _ _ _ => rfl) rent_ends)
    (AllOk.cons (iok_7 (n := 9) (by kernel_rfl) (by decide) (fun _ _ _ _ _ _ _ => rfl) vic_ends) (AllOk.cons (iok_7 (n := 10) (by kernel_rfl) (by decide) (fun _ _ _ _ _ _ _ => rfl) rvic_ends)
      (AllOk.cons (iok_8 (n := 18) (by kernel_rfl) (by decide) (fun _ _ _ _ _ _ _ _ => rfl) seg_ends) (AllOk.cons (iok_8 (n := 39) (by kernel_rfl) (by decide) (fun _ _ _ _ _ _ _ _ => rfl) rseg_ends) (AllOk.nil _ _)))))))
theorem beqI (x : Int) : (x == x) = true := by simp
theorem num_ends (s z r w k v p x : Int) : EndsIn XNum 3 (fun v' _ => v' = .bool true) (st 3 80 [cfgV s z r w k v p, .int .i64 x] (heap0 tabLaid 20)) := by
  refine VC_ok (ids := []) (Q := fun v' _ => v' = .bool true) 3000 _ ?_
  rw [vc_num]
  refine bif_true (beqI _) (bif_true (beqI _) (bif_true (beqI _) (bif_true (beqI _) (bif_true (beqI _) (bif_true (beqI _) ?_)))))
  rfl
end Go.Ideal
