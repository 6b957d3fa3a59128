/-
  Part of the proof: the machine that runs a program by fixed orders, and that each of its runs is a run of the model; or a run of it in parts. No conditions.
-/
import Derived.Test.YtjaogllgillaiaaGreatDoorIdMach
namespace Go.Ideal

/-! Regions that draw their order: the order in which the ideal machine goes, and what it looks at again. -/
def depsOf (o : Oper) : List Nat := (o.after.toList.filter (Region.binds .any)).map (·.on)

def clsOf (P : Program) (o : Oper) : Nat :=
  match o.op with
  | .move _ | .pick _ _ _ | .extract _ _ | .nilCheck _ | .makeFunc _ _ _ | .makeInterface _ _ | .load _ _ | .build _ _ | .slice _ _ _ _ _ | .fieldAddr _ _ _ | .field _ _ _ | .indexAddr _ _ _ | .index _ _ _ | .binOp _ _ _ _ _ | .unOp _ _ _ => 0
  | .convert _ d _ => match P.underlying d with
    | some (.slice _) => 2
    | _ => 0
  | .call c => match c.callee with
    | .builtin .len => 0
    | .builtin .min => 0
    | .builtin .max => 0
    | _ => 2
  | .alloc _ | .box _ _ | .buildSlice _ _ _ | .makeSlice _ _ _ => 1
  | _ => 2

/-- The ancestors of an operation. -/
def ancGo (ops : List Oper) : Nat → List Nat → List Nat → List Nat
  | 0, _, seen => seen
  | f + 1, todo, seen => match todo with
    | [] => seen
    | i :: r => bif seen.any (Nat.beq i) then ancGo ops f r seen else
      match ops[i]? with
      | some o => ancGo ops f (depsOf o ++ r) (i :: seen)
      | none => ancGo ops f r seen
def ancOf (ops : List Oper) (o : Oper) : List Nat := ancGo ops (ops.length * ops.length * 4 + 4) (depsOf o) []

def readyI (done : List Nat) (o : Oper) : Bool := (depsOf o).all fun d => done.any (Nat.beq d)

def chksOf (P : Program) (ops : List Oper) (done : List Nat) (x : Oper) : List PE :=
  let anc := ancOf ops x
  done.filterMap fun j => match ops[j]? with
    | some o => bif Nat.beq (clsOf P o) 0 && !(anc.any (Nat.beq j)) then some (.chk j o) else none
    | none => none

def planGo (P : Program) (ops : List Oper) : Nat → List Nat → Option (List PE)
  | 0, done => bif Nat.beq done.length ops.length then some [] else none
  | f + 1, done =>
    match (ops.zipIdx.find? fun (o, i) => !(done.any (Nat.beq i)) && readyI done o && !(Nat.beq (clsOf P o) 2)) with
    | some (o, i) => (planGo P ops f (i :: done)).map (PE.op i o :: ·)
    | none => match (ops.zipIdx.find? fun (o, i) => !(done.any (Nat.beq i)) && readyI done o) with
      | some (o, i) => (planGo P ops f (i :: done)).map fun r => PE.op i o :: (chksOf P ops done o ++ r)
      | none => none
def memB (l : List Nat) (i : Nat) : Bool := l.any (Nat.beq i)
def readsOf (ops : Array Oper) (o : Oper) : List Tmp :=
  (o.op.operands.toList.filterMap fun x => match x with | .tmp t => some t | _ => none) ++ (match o.guard with | some (j, _) => (guardVal ops j).toList | none => [])
def sameDst : Option Tmp → Option Tmp → Bool
  | some a, some b => Nat.beq a b
  | _, _ => false
def okStat (P : Program) (ops : Array Oper) : Bool :=
  ops.toList.zipIdx.all fun (o, i) =>
    (readsOf ops o).all (fun u => ops.toList.zipIdx.all fun (oj, j) => !(sameDst oj.dst (some u)) || memB (depsOf o) j || (Nat.beq (clsOf P oj) 2 && memB (ancOf ops.toList oj) i)) &&
    (Nat.beq (clsOf P o) 2 || o.dst.isSome) &&
    ops.toList.zipIdx.all fun (oj, j) => Nat.beq i j || !(sameDst o.dst oj.dst)
def lead : List PE → List Nat
  | .chk i _ :: r => i :: lead r
  | _ => []
def okPlan (P : Program) (ops : Array Oper) : List Nat → List PE → Bool
  | D, [] => (List.range ops.size).all (memB D)
  | D, .op i o :: rest => !(memB D i) && (depsOf o).all (memB D) &&
      (bif Nat.beq (clsOf P o) 2 then
        (ops.toList.zipIdx.all fun (oj, j) => memB D j || Nat.beq j i || memB (ancOf ops.toList oj) i) &&
        (D.all fun j => match ops.toList[j]? with
          | some oj => !(Nat.beq (clsOf P oj) 0) || memB (ancOf ops.toList o) j || memB (lead rest) j
          | none => true)
      else true) && okPlan P ops (i :: D) rest
  | D, .chk j _ :: rest => memB D j && okPlan P ops D rest
def planOf (P : Program) (ops : Array Oper) : Option (List PE) :=
  match planGo P ops.toList ops.size [] with
  | some p => bif okStat P ops && okPlan P ops [] p then some p else none
  | none => none

end Go.Ideal

namespace Go.Ideal
section
variable {P : Program} {base : Env} {W0 : World} {μ : Inj} {H : IHeap} {W : World}

/-! An operation looks at its operands alone. -/
theorem flat_all_congr {ρ ρ2 : Operand → Value} (l : List Operand) (h : ∀ x ∈ l, ρ x = ρ2 x) : l.all (fun x => flat (ρ x)) = l.all (fun x => flat (ρ2 x)) := by
  induction l with
  | nil => rfl
  | cons a l ih => simp only [List.all_cons]; rw [h a (by simp), ih fun x hx => h x (by simp [hx])]
theorem iflat_congr {ρ ρ2 : Operand → Value} (o : Oper) (h : ∀ x ∈ o.op.operands, ρ x = ρ2 x) : iflat P ρ o H = iflat P ρ2 o H := by
  unfold iflat
  rw [flat_all_congr o.op.operands.toList (fun x hx => h x (by simpa using hx))]
  cases hs : isSelect o.op
  · rw [execOp_congr o (fun cs b e => by rw [e] at hs; simp [isSelect] at hs) h]
  · simp
theorem parts_congr {ρ ρ2 : Operand → Value} (l : List (Nat × Operand)) (h : ∀ p ∈ l, ρ p.2 = ρ2 p.2) :
    l.all (fun p => notChan (ρ p.2)) = l.all (fun p => notChan (ρ2 p.2)) ∧ (l.map fun p => (p.1, ρ p.2)) = (l.map fun p => (p.1, ρ2 p.2)) := by
  induction l with
  | nil => exact ⟨rfl, rfl⟩
  | cons a l ih =>
    obtain ⟨h1, h2⟩ := ih fun p hp => h p (by simp [hp])
    simp only [List.all_cons, List.map_cons]
    rw [h a (by simp), h1, h2]
    exact ⟨rfl, rfl⟩
theorem map_congrL {ρ ρ2 : Operand → Value} (l : List Operand) (h : ∀ x ∈ l, ρ x = ρ2 x) : l.map ρ = l.map ρ2 := List.map_congr_left h

theorem iop_congr {ρ ρ2 : Operand → Value} (o : Oper) (h : ∀ x ∈ o.op.operands, ρ x = ρ2 x) : iop P ρ o H = iop P ρ2 o H := by
  have hfl := iflat_congr (P := P) (H := H) o h
  unfold iop
  cases hop : o.op <;> rw [hop] at h <;> simp only [Op.operands] at h
  case move x => simp only [h x (by simp)]
  case assign x => simp only [h x (by simp)]
  case pick c a b => simp only [h c (by simp), h a (by simp), h b (by simp)]
  case extract t i => simp only [h t (by simp)]
  case nilCheck x => simp only [h x (by simp)]
  case makeFunc fn first captured =>
    simp only [map_congrL first.toList (fun x hx => h x (by simp at hx; simp [hx])), map_congrL captured.toList (fun x hx => h x (by simp at hx; simp [hx]))]
  case makeInterface t x => simp only [h x (by simp)]
  case load t a => simp only [h a (by simp)]
  case store t a x => simp only [h a (by simp), h x (by simp)]
  case box t x => simp only [h x (by simp)]
  case build t ps =>
    obtain ⟨h1, h2⟩ := parts_congr (ρ := ρ) (ρ2 := ρ2) ps.toList (fun p hp => h p.2 (by simp; exact ⟨p.1, by simpa using hp⟩))
    simp only [h1, h2]
  case buildSlice t n ps =>
    obtain ⟨h1, h2⟩ := parts_congr (ρ := ρ) (ρ2 := ρ2) ps.toList (fun p hp => h p.2 (by simp; exact ⟨p.1, by simpa using hp⟩))
    simp only [h1, h2]
  case makeSlice t l c => simp only [h l (by simp), h c (by simp)]
  case slice t x lo hi mx =>
    have hx := h x (by simp)
    have h1 : lo.map ρ = lo.map ρ2 := by cases lo with | none => rfl | some y => simp [h y (by simp)]
    have h2 : hi.map ρ = hi.map ρ2 := by cases hi with | none => rfl | some y => simp [h y (by simp)]
    have h3 : mx.map ρ = mx.map ρ2 := by cases mx with | none => rfl | some y => simp [h y (by simp)]
    simp only [hx, h1, h2, h3]
  case fieldAddr s x k => simp only [h x (by simp)]
  case field s x k => simp only [h x (by simp)]
  case indexAddr t x i => simp only [h x (by simp), h i (by simp)]
  case index t x i => simp only [h x (by simp), h i (by simp)]
  case range t x => simp only [h x (by simp)]
  case next it s => simp only [h it (by simp)]
  case binOp op t x y yt => simp only [hfl, h x (by simp), h y (by simp)]
  case convert s d x => simp only [hfl, h x (by simp)]
  case unOp => exact hfl
  case makeMap t r =>
    have h1 : r.map ρ = r.map ρ2 := by cases r with | none => rfl | some y => simp [h y (by simp)]
    simp only [h1]
  case mapUpdate t m k x => simp only [h m (by simp), h k (by simp), h x (by simp)]
  case insert t m k x => simp only [h m (by simp), h k (by simp), h x (by simp)]
  case lookup t x k ok => simp only [h x (by simp), h k (by simp)]
  case typeAssert x xt a ok => simp only [h x (by simp)]
  case call c =>
    simp only
    cases hc : c.callee with
    | builtin b =>
      simp only
      have hargs : c.args.toList.map ρ = c.args.toList.map ρ2 := map_congrL _ fun x hx => h x (by simp [Call.operands, hc]; simpa using hx)
      have harg1 : ∀ x, c.args.toList = [x] → ρ x = ρ2 x := fun x hx => h x (by
        have : x ∈ c.args := by rw [← Array.mem_toList_iff, hx]; simp
        simp [Call.operands, hc, this])
      unfold ibuiltin
      cases b <;> simp only [hargs, hfl]
      case len =>
        split
        · rename_i t r x ht hx
          rw [harg1 x hx]
        · rfl
    | value f => rfl
    | invoke r m => rfl
  all_goals rfl

/-- A heap with more blocks. -/
def HExt (H H2 : IHeap) : Prop := ∀ b o, H.get b = some o → H2.get b = some o
theorem HExt.alloc (hH : HRel base W0 μ H W) (o : IObj) : HExt H (H.alloc o) := by
  intro b p hb
  rw [IHeap.get_alloc, if_neg]
  · exact hb
  · rintro rfl
    rw [(hH.fresh _ (Nat.le_refl _)).1] at hb; cases hb

theorem iload_ext {H2 : IHeap} (he : HExt H H2) {t : TypeId} {a v : Value} (h : iload P t a H = some v) : iload P t a H2 = some v := by
  unfold iload at h ⊢
  split at h
  · split at h
    · rename_i cs e ro hb
      simp only [he _ _ hb]
      exact h
    · cases h
  · cases h
theorem isrc_ext {H2 : IHeap} (he : HExt H H2) {sz : Nat} {x : Value} {r : Nat × List Value} (h : isrc sz x H = some r) : isrc sz x H2 = some r := by
  unfold isrc at h ⊢
  split at h
  · exact h
  · rename_i b off n c
    cases hz : Nat.beq (n * sz) 0
    · simp only [hz, cond_false] at h ⊢
      split at h
      · rename_i cs e ro hb
        simp only [he _ _ hb]
        exact h
      · cases h
    · simp only [hz, cond_true] at h ⊢; exact h
  · exact h
  · cases h
theorem islice_ext {H2 : IHeap} (he : HExt H H2) {t : TypeId} {x v : Value} {lo hi mx : Option Value} (h : islice P t x lo hi mx H = some v) : islice P t x lo hi mx H2 = some v := by
  unfold islice at h ⊢
  split at h
  · exact h
  · exact h
  · exact h
  · rename_i e b off len cap hu
    split at h
    · rename_i sz hsz
      cases hc : Nat.blt cap capU
      · simp only [hc, cond_false] at h ⊢
        split at h
        · rename_i cs e2 ro hb
          simp only [he _ _ hb]
          exact h
        · cases h
      · simp only [hc, cond_true] at h ⊢; exact h
    · cases h
  · cases h
theorem iflat_heap {ρ : Operand → Value} {o : Oper} {v : Value} {H1 : IHeap} (h : iflat P ρ o H = some (v, H1)) : H1 = H ∧ ∀ H2, iflat P ρ o H2 = some (v, H2) := by
  unfold iflat at h ⊢
  cases hc : (o.op.operands.toList.all (fun x => flat (ρ x)) && !(isSelect o.op))
  · simp only [hc, cond_false] at h; cases h
  · simp only [hc, cond_true] at h ⊢
    split at h
    · rename_i w hw
      cases hf : flat w
      · simp [hf] at h
      · simp only [hf, cond_true, Option.some.injEq, Prod.mk.injEq] at h ⊢
        exact ⟨h.2.symm, fun H2 => by simp [h.1]⟩
    · cases h

/-- An operation of the first class leaves the heap alone, and gives the same over a heap with more blocks. -/
theorem iop_zero {ρ : Operand → Value} {o : Oper} {v : Value} {H1 : IHeap} (hcls : clsOf P o = 0) (h : iop P ρ o H = some (v, H1)) : H1 = H ∧ ∀ H2, HExt H H2 → iop P ρ o H2 = some (v, H2) := by
  unfold clsOf at hcls
  unfold iop at h ⊢
  cases hop : o.op <;> rw [hop] at hcls <;> simp only [hop] at h ⊢
  case move x => cases h; exact ⟨rfl, fun _ _ => rfl⟩
  case assign x => cases h; exact ⟨rfl, fun _ _ => rfl⟩
  case pick c a b =>
    split at h
    · cases h; exact ⟨rfl, fun _ _ => rfl⟩
    · cases h
  case extract t i =>
    split at h
    · split at h
      · cases h; exact ⟨rfl, fun _ _ => rfl⟩
      · cases h
    · cases h
  case nilCheck x =>
    split at h
    · cases h; exact ⟨rfl, fun _ _ => rfl⟩
    · cases h; exact ⟨rfl, fun _ _ => rfl⟩
    · cases h; exact ⟨rfl, fun _ _ => rfl⟩
    · cases h
  case makeFunc fn a b =>
    split at h
    · cases h
    · cases h; exact ⟨rfl, fun _ _ => rfl⟩
  case makeInterface t x =>
    split at h
    · cases h
    · cases h; exact ⟨rfl, fun _ _ => rfl⟩
    · cases h
  case load t a =>
    split at h
    · rename_i w hw
      cases h
      exact ⟨rfl, fun H2 he => by rw [iload_ext he hw]⟩
    · cases h
  case build t ps =>
    cases hn : ps.toList.all (fun p => notChan (ρ p.2))
    · simp only [hn, cond_false] at h; cases h
    · simp only [hn, cond_true] at h ⊢
      split at h
      · cases h; exact ⟨rfl, fun _ _ => rfl⟩
      · cases h
  case slice t x lo hi mx =>
    split at h
    · rename_i w hw
      cases h
      exact ⟨rfl, fun H2 he => by rw [islice_ext he hw]⟩
    · cases h
  case fieldAddr =>
    split at h
    · cases h; exact ⟨rfl, fun _ _ => rfl⟩
    · cases h
  case field =>
    split at h
    · cases h; exact ⟨rfl, fun _ _ => rfl⟩
    · cases h
  case indexAddr =>
    split at h
    · cases h; exact ⟨rfl, fun _ _ => rfl⟩
    · cases h
  case index =>
    split at h
    · cases h; exact ⟨rfl, fun _ _ => rfl⟩
    · cases h
  case binOp op t x y yt =>
    split at h
    · rename_i r hr
      cases h
      obtain ⟨h1, h2⟩ := iflat_heap hr
      exact ⟨h1, fun H2 _ => by rw [h2 H2]⟩
    · rename_i hn
      split at h
      · rename_i w hw
        cases h
        refine ⟨rfl, fun H2 _ => ?_⟩
        cases hq : iflat P ρ o H2 with
        | none => rfl
        | some r =>
          obtain ⟨r1, r2⟩ := r
          rw [(iflat_heap hq).2 H] at hn; cases hn
      · cases h
  case unOp =>
    obtain ⟨h1, h2⟩ := iflat_heap h
    exact ⟨h1, fun H2 _ => h2 H2⟩
  case convert s d x =>
    split at h
    · rename_i r hr
      cases h
      obtain ⟨h1, h2⟩ := iflat_heap hr
      exact ⟨h1, fun H2 _ => by rw [h2 H2]⟩
    · rename_i hn
      have hkeep : ∀ H2, iflat P ρ o H2 = none := by
        intro H2
        cases hq : iflat P ρ o H2 with
        | none => rfl
        | some r =>
          obtain ⟨r1, r2⟩ := r
          rw [(iflat_heap hq).2 H] at hn; cases hn
      unfold iconvert at h ⊢
      split at h
      · rename_i e a n c hu1 hu2
        split at h
        · split at h
          · cases h
            exact ⟨rfl, fun H2 _ => by simp only [hkeep H2]⟩
          · split at h
            · rename_i m l hs
              split at h
              · rename_i ns hns
                cases h
                exact ⟨rfl, fun H2 he => by simp only [hkeep H2, isrc_ext he hs, hns]⟩
              · cases h
            · cases h
        · cases h
      · rename_i e s hu1 hu2 hx
        simp only [hu2] at hcls
        cases hcls
      · cases h
  case call c =>
    cases hc : c.callee with
    | builtin b =>
      simp only [hc] at h hcls ⊢
      unfold ibuiltin at h ⊢
      cases b <;> simp at hcls <;> simp only at h ⊢
      case len =>
        split at h
        · split at h
          · cases h; exact ⟨rfl, fun _ _ => rfl⟩
          · cases h
        · cases h
      all_goals (obtain ⟨h1, h2⟩ := iflat_heap h; exact ⟨h1, fun H2 _ => h2 H2⟩)
    | value f => simp only [hc] at h; cases h
    | invoke r m => simp only [hc] at h; cases h
  all_goals first | (cases h; done) | (simp at hcls; done)

end
end Go.Ideal
