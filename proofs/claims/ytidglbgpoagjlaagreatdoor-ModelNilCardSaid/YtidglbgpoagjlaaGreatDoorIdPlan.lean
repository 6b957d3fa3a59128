/-
  Part of the proof: the machine that runs a program by fixed orders, and that each of its runs is a run of the model; or a run of it in parts. No conditions.
-/
import Derived.Test.YtidglbgpoagjlaaGreatDoorIdMach
namespace Go.Ideal

/-! Regions that draw their order: the order in which the ideal machine goes, and what it looks at again. -/
def depsOf (o : Oper) : List Nat := (o.after.toList.filter (Region.binds .any)).map (·.on)

def clsOf (P : Program) (o : Oper) : Nat :=
  match o.op with
  | .move _ | .pick _ _ _ | .extract _ _ | .nilCheck _ | .makeFunc _ _ _ | .makeInterface _ _ | .load _ _ | .build _ _ | .slice _ _ _ _ _ | .fieldAddr _ _ _ | .field _ _ _ | .indexAddr _ _ _ | .index _ _ _ | .binOp _ _ _ _ _ | .unOp _ _ _ => 0
  | .convert _ d _ => match P.underlying d with
    | some (.slice _) => 2
    | _ => 0
  | .call c => match c.callee with
    | .builtin .len => 0
    | .builtin .min => 0
    | .builtin .max => 0
    | _ => 2
  | .alloc _ | .box _ _ | .buildSlice _ _ _ | .makeSlice _ _ _ => 1
  | _ => 2

/-- The ancestors of an operation. -/
def ancGo (ops : List Oper) : Nat → List Nat → List Nat → List Nat
  | 0, _, seen => seen
  | f + 1, todo, seen => match todo with
    | [] => seen
    | i :: r => bif seen.any (Nat.beq i) then ancGo ops f r seen else
      match ops[i]? with
      | some o => ancGo ops f (depsOf o ++ r) (i :: seen)
      | none => ancGo ops f r seen
def ancOf (ops : List Oper) (o : Oper) : List Nat := ancGo ops (ops.length * ops.length * 4 + 4) (depsOf o) []

def readyI (done : List Nat) (o : Oper) : Bool := (depsOf o).all fun d => done.any (Nat.beq d)

def chksOf (P : Program) (ops : List Oper) (done : List Nat) (x : Oper) : List PE :=
  let anc := ancOf ops x
  done.filterMap fun j => match ops[j]? with
    | some o => bif Nat.beq (clsOf P o) 0 && !(anc.any (Nat.beq j)) then some (.chk j o) else none
    | none => none

def planGo (P : Program) (ops : List Oper) : Nat → List Nat → Option (List PE)
  | 0, done => bif Nat.beq done.length ops.length then some [] else none
  | f + 1, done =>
    match (ops.zipIdx.find? fun (o, i) => !(done.any (Nat.beq i)) && readyI done o && !(Nat.beq (clsOf P o) 2)) with
    | some (o, i) => (planGo P ops f (i :: done)).map (PE.op i o :: ·)
    | none => match (ops.zipIdx.find? fun (o, i) => !(done.any (Nat.beq i)) && readyI done o) with
      | some (o, i) => (planGo P ops f (i :: done)).map fun r => PE.op i o :: (chksOf P ops done o ++ r)
      | none => none
def memB (l : List Nat) (i : Nat) : Bool := l.any (Nat.beq i)
def readsOf (ops : Array Oper) (o : Oper) : List Tmp :=
  (o.op.operands.toList.filterMap fun x => match x with | .tmp t => some t | _ => none) ++ (match o.guard with | some (j, _) => (guardVal ops j).toList | none => [])
def sameDst : Option Tmp → Option Tmp → Bool
  | some a, some b => Nat.beq a b
  | _, _ => false
def okStat (P : Program) (ops : Array Oper) : Bool :=
  ops.toList.zipIdx.all fun (o, i) =>
    (readsOf ops o).all (fun u => ops.toList.zipIdx.all fun (oj, j) => !(sameDst oj.dst (some u)) || memB (depsOf o) j || (Nat.beq (clsOf P oj) 2 && memB (ancOf ops.toList oj) i)) &&
    (Nat.beq (clsOf P o) 2 || o.dst.isSome) &&
    ops.toList.zipIdx.all fun (oj, j) => Nat.beq i j || !(sameDst o.dst oj.dst)
def lead : List PE → List Nat
  | .chk i _ :: r => i :: lead r
  | _ => []
def okPlan (P : Program) (ops : Array Oper) : List Nat → List PE → Bool
  | D, [] => (List.range ops.size).all (memB D)
  | D, .op i o :: rest => !(memB D i) && (depsOf o).all (memB D) &&
      (bif Nat.beq (clsOf P o) 2 then
        (ops.toList.zipIdx.all fun (oj, j) => memB D j || Nat.beq j i || memB (ancOf ops.toList oj) i) &&
        (D.all fun j => match ops.toList[j]? with
          | some oj => !(Nat.beq (clsOf P oj) 0) || memB (ancOf ops.toList o) j || memB (lead rest) j
          | none => true)
      else true) && okPlan P ops (i :: D) rest
  | D, .chk j _ :: rest => memB D j && okPlan P ops D rest
def planOf (P : Program) (ops : Array Oper) : Option (List PE) :=
  match planGo P ops.toList ops.size [] with
  | some p => bif okStat P ops && okPlan P ops [] p then some p else none
  | none => none

end Go.Ideal
