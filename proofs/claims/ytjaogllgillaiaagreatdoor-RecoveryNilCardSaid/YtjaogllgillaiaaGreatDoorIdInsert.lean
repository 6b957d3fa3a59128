/-
  Part of the proof: the machine that runs a program by fixed orders, and that each of its runs is a run of the model; or a run of it in parts. No conditions.
-/
import Derived.Test.YtjaogllgillaiaaGreatDoorIdMach
namespace Go.Ideal

/-! slices.Insert in the middle. -/
noncomputable def imid (sz bytes b off len i n : Nat) (new : List Value) (H : IHeap) : Option (Value × IHeap) :=
  match H.get b with
  | some (.cells cs e false) =>
    let old := (cs.drop off).take (len * sz)
    bif Nat.beq old.length (len * sz) && Nat.beq e sz && old.all okCell && new.all okCell && Nat.ble ((2 * (len + n) + 192) * bytes) 281474976710656 && Nat.ble (len + n) 4611686018427387904 then
      some (.slice (some ⟨H.next, 0, none⟩) (len + n) (capU + (len + n)), (H.del b).alloc (.cells (old.take (i * sz) ++ (new ++ old.drop (i * sz))) sz false))
    else none
  | _ => none
def isOwn (o : Option IObj) : Bool :=
  match o with
  | some (.cells _ e false) => !(Nat.beq e 1)
  | _ => false
noncomputable def iinsert (sz bytes : Nat) : IFun := fun args H =>
  match args with
  | [.slice (some ⟨b, off, none⟩) len cap, .int .i64 (.ofNat i), .slice (some ⟨vb, voff, none⟩) m vcap] =>
    bif Nat.ble capU cap && Nat.blt i len && !(Nat.beq vb b) && !(Nat.beq m 0) && isOwn (H.get vb) then
      match isrc sz (.slice (some ⟨vb, voff, none⟩) m vcap) H with
      | some (n, new) => imid sz bytes b off len i n new H
      | none => none
    else none
  | _ => none

end Go.Ideal
