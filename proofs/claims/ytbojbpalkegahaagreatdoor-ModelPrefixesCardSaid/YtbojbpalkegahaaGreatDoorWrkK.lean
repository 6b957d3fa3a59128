/-
  Part of the proof: the machine that runs a program by fixed orders, and that each of its runs is a run of the model; or a run of it in parts. No conditions.
-/
import Derived.Test.YtbojbpalkegahaaGreatDoorWrkR1
noncomputable section
set_option maxRecDepth 1000000
namespace Go.AI
open Go.Proofs
theorem cw:Iw fZ dZ Wr:=
 Iw.trans (Iw.TJ iv) ((Iw.TJ hI))
theorem Yq:JL Tryz.prog MJ WV:=
 Vi fN (k:=WV) (n:=145) (N:=17) (by kernel_rfl) cw (H1:=Wr.H) (by kernel_rfl)
end Go.AI
