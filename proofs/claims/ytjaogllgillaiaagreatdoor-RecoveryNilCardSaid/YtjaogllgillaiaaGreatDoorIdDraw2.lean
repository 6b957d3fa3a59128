/-
  Part of the proof: the machine that runs a program by fixed orders, and that each of its runs is a run of the model; or a run of it in parts. No conditions.
-/
import Derived.Test.YtjaogllgillaiaaGreatDoorIdDraw
namespace Go.Ideal
section
variable {P : Program} {base : Env} {W0 : World} {μ : Inj} {H : IHeap} {W : World}

/-! Operations that make one block. -/
inductive MkOk : (Nat → Value) → Prop where
  | ptr : MkOk fun b => .pointer (some ⟨b, 0, none⟩)
  | slice (l c : Nat) (h : c < capU) : MkOk fun b => .slice (some ⟨b, 0, none⟩) l c

/-- What the machine does at such an operation. -/
def AllocRun (P : Program) (μ : Inj) (W : World) (s : Sem Next) (obj : IObj) (mk : Nat → Value) : Prop :=
  ∃ o' T v', s.run P W = .ok (.value v') (W.alloc o') ∧ T.c = W.heap.size ∧ ORel μ T obj o' ∧ ∀ b, VRel (μ.ext b T) (mk b) v'

theorem iop_one {ρ : Operand → Value} {o : Oper} {v : Value} {H1 : IHeap} (hcls : clsOf P o = 1) (h : iop P ρ o H = some (v, H1)) :
    ∃ obj mk, v = mk H.next ∧ H1 = H.alloc obj ∧ (∀ H2, iop P ρ o H2 = some (mk H2.next, H2.alloc obj)) ∧ (obj.ro = false ∧ obj.isAbs = false) ∧
      ∀ (μ : Inj) (W : World) (ρ' : Operand → Value), (∀ x, VRel μ (ρ x) (ρ' x)) → AllocRun P μ W (execOp ρ' o) obj mk := by
  unfold clsOf at hcls
  unfold iop at h ⊢
  cases hop : o.op <;> rw [hop] at hcls <;> simp only [hop] at h ⊢
  case alloc t =>
    split at h
    · rename_i z hz
      cases h
      refine ⟨.cells z 0 false, fun b => .pointer (some ⟨b, 0, none⟩), rfl, rfl, fun _ => rfl, ⟨rfl, rfl⟩, fun μ W ρ' _ => ?_⟩
      obtain ⟨zz, r1, r2, r3⟩ := run_zeroValue' hz W
      have hl : LRel μ z zz.cells.toList := by rw [← r3]; exact flat_cells r2
      exact ⟨_, _, .pointer (some ⟨W.heap.size, 0, none⟩), by simp [execOp, hop, Instr.alloc, r1, newVar, newRow], rfl, orel_cells W.heap.size 0 t hl, fun b => ptr_new ⟨W.heap.size, 0, zz.cells.size, 0⟩ b rfl⟩
    · cases h
  case box t x =>
    cases hn : notChan (ρ x)
    · simp [hn] at h
    · simp only [hn, cond_true, Option.some.injEq, Prod.mk.injEq] at h ⊢
      obtain ⟨rfl, rfl⟩ := h
      refine ⟨.cells (ρ x).cells.toList 0 false, fun b => .pointer (some ⟨b, 0, none⟩), rfl, rfl, fun _ => ⟨rfl, rfl⟩, ⟨rfl, rfl⟩, fun μ W ρ' hρ => ?_⟩
      have hl := cells_rel (hρ x) (notChan_ne hn)
      exact ⟨_, _, .pointer (some ⟨W.heap.size, 0, none⟩), by simp [execOp, hop, Instr.box, newVar, newRow], rfl, orel_cells W.heap.size 0 t hl, fun b => ptr_new ⟨W.heap.size, 0, (ρ' x).cells.size, 0⟩ b rfl⟩
  case buildSlice t len parts =>
    cases hn : (Nat.blt len capU && parts.toList.all (fun p => notChan (ρ p.2)))
    · simp only [hn, cond_false] at h; cases h
    · simp only [hn, cond_true] at h ⊢
      simp only [Bool.and_eq_true] at hn
      have hcap : len < capU := Nat.le_of_ble_eq_true hn.1
      unfold ibuildSlice at h ⊢
      split at h
      · rename_i e hu
        split at h
        · rename_i n z hsz hz
          obtain ⟨ie, h5, rfl⟩ := sizeT_eq hsz
          obtain ⟨i, zz, h1, h2, h3, h4⟩ := zeroL_eq hz
          rw [h5] at h1; cases h1
          cases hz0 : Nat.beq (len * ie.size) 0
          case true =>
            simp only [hz0, cond_true] at h ⊢
            split at h
            · rename_i hpn
              cases h
              refine ⟨.cells [] ie.size false, fun b => .slice (some ⟨b, 0, none⟩) len len, rfl, rfl, fun _ => rfl, ⟨rfl, rfl⟩, fun μ W ρ' hρ => ?_⟩
              have hz0 := Nat.eq_of_beq_eq_true hz0
              have hpe : parts = #[] := by
                have : parts.toList = [] := by simpa using hpn
                rw [← Array.toList_inj, this]
              have hrun : (Instr.buildSlice t len (parts.map fun (i, x) => (i, ρ' x))).run P W = .ok (.slice (some ⟨W.heap.size, 0, none⟩) len len) (W.alloc (.cells #[] e)) := by
                have hr0 : Array.range 0 = #[] := rfl
                subst hpe
                simp [Instr.buildSlice, run_underlying hu, sizeOf, typeInfo, h5, hz0, newRow, hr0, Instr.fill]
              exact ⟨_, _, _, by simp only [execOp, hop, Sem.run_bind, hrun, Result.andThen_ok, Sem.run_pure], rfl, orel_cells (l := []) (c := #[]) W.heap.size ie.size e .nil, fun b => slice_new _ b rfl len len len (.inl ⟨hcap, rfl⟩)⟩
            · cases h
          simp only [hz0, cond_false] at h ⊢
          cases hcnd : (Nat.ble (len * ie.size) 16777216)
          · simp only [hcnd, cond_false] at h; cases h
          · simp only [hcnd, cond_true] at h ⊢
            have c1 := Nat.le_of_ble_eq_true hcnd
            have c2 : ¬ len * ie.size = 0 := by intro e; rw [e] at hz0; exact absurd hz0 (by decide)
            cases hf : ifill (fun i => some (i * ie.size, ie.size)) (zerosL z (len * ie.size)) (parts.toList.map fun p => (p.1, ρ p.2)) with
            | none => simp [hf] at h
            | some r =>
              simp only [hf, Option.map_some, Option.some.injEq, Prod.mk.injEq] at h ⊢
              obtain ⟨rfl, rfl⟩ := h
              refine ⟨.cells r ie.size false, fun b => .slice (some ⟨b, 0, none⟩) len len, rfl, rfl, fun _ => ⟨rfl, rfl⟩, ⟨rfl, rfl⟩, fun μ W ρ' hρ => ?_⟩
              obtain ⟨r', e1, e2⟩ := fill_sim _ _ _ _ r (parts_rel hρ _ hn.2) (zeros_sim h3 h4 (len * ie.size)) hf
              have hrun : (Instr.buildSlice t len (parts.map fun (i, x) => (i, ρ' x))).run P W = .ok (.slice (some ⟨W.heap.size, 0, none⟩) len len) (W.alloc (.cells r' e)) := by
                have hsmall : ¬ len * ie.size > 2 ^ 24 := by omega
                have e1' : Instr.fill (fun i => some (i * ie.size, ie.size)) ((Array.range (len * ie.size)).map (zz.cells[· % zz.cells.size]!)) (parts.map fun (i, x) => (i, ρ' x)).toList = some r' := by
                  rw [Array.toList_map]; exact e1
                simp only [Instr.buildSlice, run_underlying hu, Sem.run_bind, Result.andThen_ok, run_sizeOf' hsz, hsmall, if_false, Sem.run_pure, c2, zeroValue, typeInfo, run_program, h5, h2, e1', newRow, run_newObj, World.alloc_eq]
              exact ⟨_, _, _, by simp only [execOp, hop, Sem.run_bind, hrun, Result.andThen_ok, Sem.run_pure], rfl, orel_cells W.heap.size ie.size e e2, fun b => slice_new _ b rfl len len len (.inl ⟨hcap, rfl⟩)⟩
        · cases h
      · cases h
  case makeSlice t l c =>
    have h0 := h
    unfold imakeSlice at h ⊢
    split at h
    · rename_i e k1 l1 k2 c1 hu hl hc
      split at h
      · rename_i i z hie hz
        cases hcnd : (Nat.ble l1 c1 && Nat.ble (i.bytes * c1) 281474976710656 && Nat.blt c1 9223372036854775808)
        · simp only [hcnd, cond_false] at h; cases h
        · simp only [hcnd, cond_true, Option.some.injEq, Prod.mk.injEq] at h ⊢
          obtain ⟨rfl, rfl⟩ := h
          refine ⟨.cells (zerosL z (c1 * i.size)) i.size false, fun b => .slice (some ⟨b, 0, none⟩) l1 c1, rfl, rfl, fun _ => ⟨rfl, rfl⟩, ⟨rfl, rfl⟩, fun μ W ρ' hρ => ?_⟩
          have hl' : ρ' l = .int k1 (Int.ofNat l1) := by
            have := hρ l; rw [hl] at this
            generalize ρ' l = q at this ⊢
            cases this; rfl
          have hc' : ρ' c = .int k2 (Int.ofNat c1) := by
            have := hρ c; rw [hc] at this
            generalize ρ' c = q at this ⊢
            cases this; rfl
          obtain ⟨o', T, hrun, hT, ho⟩ := makeSlice_run (P := P) (μ := μ) (W := W) (k1 := k1) (k2 := k2) hu hie hz hcnd
          refine ⟨o', T, .slice (some ⟨W.heap.size, 0, none⟩) l1 c1, by simp only [execOp, hop, hl', hc', Sem.run_bind, hrun, Result.andThen_ok, Sem.run_pure], hT.1, ho, fun b => ?_⟩
          have := capU_big
          simp only [Bool.and_eq_true] at hcnd
          have c3 : c1 < 9223372036854775808 := Nat.le_of_ble_eq_true hcnd.2
          have hs := slice_new (μ := μ) T b hT.2 l1 c1 c1 (.inl ⟨by omega, rfl⟩)
          rw [hT.1] at hs
          exact hs
      · cases h
    · cases h
  case convert s d x =>
    simp only at hcls
    split at hcls <;> cases hcls
  case call c =>
    simp only at hcls
    split at hcls <;> cases hcls
  all_goals first | (cases h; done) | (simp at hcls; done)

/-- A block that the ideal heap has, and memory not yet. -/
theorem HRel.ghost (h : HRel base W0 μ H W) (o : IObj) : HRel base W0 μ (H.alloc o) W := by
  have hn := h.fresh H.next (Nat.le_refl _)
  have key : ∀ b p T, (H.alloc o).get b = some p → μ b = some T → H.get b = some p := by
    intro b p T hb hm
    rw [IHeap.get_alloc] at hb
    by_cases e : b = H.next
    · subst e; rw [hn.2] at hm; cases hm
    · rw [if_neg e] at hb; exact hb
  refine ⟨fun b p hb T hm => h.obj b p (key b p T hb hm) T hm, fun b p hb hr T hm => h.own b p (key b p T hb hm) hr T hm, fun b1 b2 o1 o2 h1 h2 T1 T2 m1 m2 => h.inj b1 b2 o1 o2 (key _ _ _ h1 m1) (key _ _ _ h2 m2) T1 T2 m1 m2, ?_, h.bound, h.size, h.below, h.out, h.os,
    let ⟨φ, q⟩ := h.abs; ⟨φ, fun b' a ro T' h1 h2 => q.rep b' a ro T' (key _ _ _ h1 h2) h2, fun b' a ro T' h1 h2 b2 o2 T2 h3 h4 h5 => q.far b' a ro T' (key _ _ _ h1 h2) h2 b2 o2 T2 (key _ _ _ h3 h4) h4 h5⟩, h.le, h.grow⟩
  intro b hb
  have hb' : H.next + 1 ≤ b := hb
  refine ⟨?_, (h.fresh b (by omega)).2⟩
  rw [IHeap.get_alloc, if_neg (by omega)]; exact (h.fresh b (by omega)).1

/-- Memory comes to have it. -/
theorem HRel.settle (h : HRel base W0 μ H W) {b : Nat} {T : Tgt} {obj : IObj} {o' : Obj} (hb : H.get b = some obj) (hm : μ b = none) (hT : T.c = W.heap.size) (ho : ORel μ T obj o') (hna : obj.isAbs = false) : HRel base W0 (μ.ext b T) H (W.alloc o') := by
  have hle := Inj.le_ext T hm
  have hlt := h.lt hb
  have old : ∀ i, i < W.heap.size → (W.alloc o').heap[i]? = W.heap[i]? := by
    intro i hi
    show (W.heap.push o')[i]? = W.heap[i]?
    rw [Array.getElem?_push, if_neg (by omega)]
  have key : ∀ i S, (μ.ext b T) i = some S → (i = b ∧ S = T) ∨ (i ≠ b ∧ μ i = some S) := by
    intro i S e
    by_cases hi : i = b
    · subst hi; rw [Inj.ext_same] at e; cases e; exact .inl ⟨rfl, rfl⟩
    · rw [Inj.ext_ne _ _ hi] at e; exact .inr ⟨hi, e⟩
  refine ⟨?_, ?_, ?_, ?_, ?_, ?_, ?_, h.out, h.os, ?_, Inj.le_trans h.le hle, by have := h.grow; simp; omega⟩
  · intro i p hp S hS
    rcases key i S hS with ⟨rfl, rfl⟩ | ⟨hne, hS'⟩
    · rw [hb] at hp; cases hp
      refine ⟨o', ?_, ho.mono hle⟩
      rw [hT]
      show (W.heap.push o')[W.heap.size]? = some o'
      simp
    · obtain ⟨o2, h2, h3⟩ := h.obj i p hp S hS'
      exact ⟨o2, by rw [old _ (h.bound i S hS')]; exact h2, h3.mono hle⟩
  · intro i p hp hr S hS
    rcases key i S hS with ⟨rfl, rfl⟩ | ⟨hne, hS'⟩
    · intro hk; have := h.size _ hk; omega
    · exact h.own i p hp hr S hS'
  · intro b1 b2 o1 o2 h1 h2 T1 T2 m1 m2 hcc
    rcases key b1 T1 m1 with ⟨e1, f1⟩ | ⟨n1, m1'⟩ <;> rcases key b2 T2 m2 with ⟨e2, f2⟩ | ⟨n2, m2'⟩
    · rw [e1, e2]
    · have := h.bound b2 T2 m2'; subst f1; omega
    · have := h.bound b1 T1 m1'; subst f2; omega
    · exact h.inj b1 b2 o1 o2 h1 h2 T1 T2 m1' m2' hcc
  · intro i hi
    refine ⟨(h.fresh i hi).1, ?_⟩
    rw [Inj.ext_ne _ _ (by omega)]; exact (h.fresh i hi).2
  · intro i S hS
    rcases key i S hS with ⟨rfl, rfl⟩ | ⟨hne, hS'⟩
    · simp; omega
    · have := h.bound i S hS'; simp; omega
  · intro i hi; have := h.size i hi; simp; omega
  · intro i hi
    rw [old i (h.size i hi)]; exact h.below i hi
  · obtain ⟨φ, q⟩ := h.abs
    refine ⟨φ, ?_, ?_⟩
    · intro b' a ro T' hb' hm'
      rcases key b' T' hm' with ⟨rfl, rfl⟩ | ⟨hne, hm2⟩
      · rw [hb] at hb'; cases hb'; cases hna
      · obtain ⟨r1, r2⟩ := q.rep b' a ro T' hb' hm2
        exact ⟨base.loc _ _ _ _ _ r1 (fun i hi => old i ((base.bnd _ _ _ _ r1).2 i hi)), r2⟩
    · intro b' a ro T' hb' hm' b2 o2 T2 hb2 hm2 hne2
      rcases key b' T' hm' with ⟨rfl, rfl⟩ | ⟨hne, hm3⟩
      · rw [hb] at hb'; cases hb'; cases hna
      · rcases key b2 T2 hm2 with ⟨rfl, rfl⟩ | ⟨hne3, hm4⟩
        · rw [hb] at hb2; cases hb2
          refine ⟨fun hc => ?_, fun e => by rw [hna] at e; cases e⟩
          have := (base.bnd _ _ _ _ (q.rep b' a ro T' hb' hm3).1).2 _ hc
          omega
        · exact q.far b' a ro T' hb' hm3 b2 o2 T2 hb2 hm4 hne2

end
end Go.Ideal
