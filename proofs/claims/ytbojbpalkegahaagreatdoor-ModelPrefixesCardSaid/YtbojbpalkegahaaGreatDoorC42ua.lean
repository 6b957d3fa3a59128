/-
  Part of the proof: the machine that runs a program by fixed orders, and that each of its runs is a run of the model; or a run of it in parts. No conditions.
-/
import Derived.Test.YtbojbpalkegahaaGreatDoorAbr
import Derived.Test.YtbojbpalkegahaaGreatDoorWrkD
noncomputable section
set_option maxRecDepth 1000000
namespace Go.AI
open Go.Proofs
abbrev Bq:EK:=[.int .u8,.int .u8,.int .u8]
def iJ (l more:List (EK.C Bq)):AA:=((⟨.leaf,9⟩:AA).alloc (.vec Bq l true)).alloc (.vec Bq more true)
end Go.AI
