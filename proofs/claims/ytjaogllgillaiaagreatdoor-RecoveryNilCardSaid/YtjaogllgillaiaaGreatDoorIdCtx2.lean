/-
  Part of the proof: the machine that runs a program by fixed orders, and that each of its runs is a run of the model; or a run of it in parts. No conditions.
-/
import Derived.Test.YtjaogllgillaiaaGreatDoorIdInsertOk
namespace Go.Ideal
theorem known_ofI {P : Program} {laid : List (Nat × List Value)} {fs : List (FuncId × IFun)} (hfs : AllOk P laid fs) {k : Known} {n N : Nat} (hs : startOk P laid k n N = true)
    {c' : Cfg} {H1 : IHeap} (hrun : Goes (ctxI P laid fs) (startC k.f (fillTmps 0 k.args .leaf) n (pcOf P k.f []) (heap0 laid N)) c') (hd : doneF (ctxI P laid fs) k.f c' = some (k.v, H1)) : KnownOk P laid k := by
  simp only [startOk, Bool.and_eq_true] at hs
  obtain ⟨⟨⟨⟨⟨h1, h2⟩, h3⟩, h4⟩, h5⟩, h6⟩ := hs
  have he : entry P k.f = some (n, pcOf P k.f []) := by
    cases h : entry P k.f with
    | none => rw [h] at h6; cases h6
    | some p =>
      obtain ⟨m, c⟩ := p
      rw [h] at h6
      rw [← Nat.eq_of_beq_eq_true h6]
      rw [← h]; exact entry_pc h
  exact ⟨⟨n, _, he⟩, fun _ _ _ _ _ _ hW hH ha => pure_goes (X := ⟨P, laid, fun _ => none, planOf P⟩) (ctxI P laid fs) rfl rfl hW (fun base W0 hW => hfs.intr base W0 hW) (planOk_of h1 rfl) he h2 (Nat.le_of_ble_eq_true h3) (all_lt h4) hrun hd h5 hH ha⟩
end Go.Ideal
