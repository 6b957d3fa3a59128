/-
  Part of the proof: the machine that runs a program by fixed orders, and that each of its runs is a run of the model; or a run of it in parts. No conditions.
-/
import Derived.Test.YtjaogllgillaiaaGreatDoorIdLift
namespace Go.Ideal
/-- What the run has come to, under other names, is the new heap. -/
def LiftEnd (Hc H H' : IHeap) (ρ : Ren) (v vc : Value) (Hf : IHeap) : Prop := ∃ ρ' : Ren,
  (∀ b1 b2 i, ρ' b1 = some i → ρ' b2 = some i → b1 = b2) ∧ (∀ b, b < Hc.next → ρ' b = ρ b) ∧ (∀ b i, ρ' b = some i → Hc.next ≤ b → H.next ≤ i ∧ i < H'.next) ∧
  (∀ i o, H'.get i = some o → (H.next ≤ i ∨ ∃ b o0, Hc.get b = some o0 ∧ o0.ro = false ∧ ρ b = some i) → ∃ b o0, ρ' b = some i ∧ Hf.get b = some o0 ∧ renO ρ' o0 = some o ∧ o0.ro = false) ∧
  renV ρ' vc = some v
open Classical in
/-- A run over few blocks, under names of its own, is a run over all of them: what it does not name stays as it is. -/
theorem lift {X : Ctx} {base : Env} {W0 : World} {μ : Inj} {H : IHeap} {W : World}
    (hok : ∀ b W0, LaidW X b W0 → IntrOk X b W0) (hplan : PlanOk X) (hW : LaidW X base W0) (hH : HRel base W0 μ H W) (hlaid : LaidRel X μ)
    {f : FuncId} {n : Nat} {code : Code} (he : entry X.P f = some (n, code)) {Hc H' : IHeap} {argsc args : List Value} {args' : Array Value} {ρ : Ren} {v : Value}
    (hn : argsc.length ≤ n) (hargs : renL (renV ρ) argsc = some args) (ha : LRel μ args args'.toList)
    (hlt : ∀ b i, ρ b = some i → b < Hc.next) (hdom : ∀ b i, ρ b = some i → ∃ T, μ i = some T) (hinj0 : ∀ b1 b2 i, ρ b1 = some i → ρ b2 = some i → b1 = b2) (hnext : H.next ≤ H'.next)
    (hlr : ∀ g, X.laid.any (fun p => Nat.beq g p.1) = true → ρ g = some g)
    (hobj : ∀ b o, Hc.get b = some o → ∃ i o1, ρ b = some i ∧ H.get i = some o1 ∧ renO ρ o = some o1)
    (k1 : ∀ i, i < H.next → (∀ b o, Hc.get b = some o → o.ro = false → ρ b ≠ some i) → H'.get i = H.get i)
    (k3 : ∀ i, H'.next ≤ i → H'.get i = none)
    (hrun : EndsIn X f (fun vc Hf => LiftEnd Hc H H' ρ v vc Hf) (startC f (fillTmps 0 argsc .leaf) n code Hc)) :
    Calls X.P f args' W fun e W' => ∃ v' μ', e = .returned v' ∧ HRel base W0 μ' H' W' ∧ VRel μ' v v' ∧ Evolve μ H μ' H' := by
  obtain ⟨φ, q⟩ := hH.abs
  have hiN : ∀ b i, ρ b = some i → i < H.next := fun b i hb => let ⟨_, hT⟩ := hdom b i hb; hH.lt_map hT
  have hfree : ∀ b, Hc.next ≤ b → Hc.get b = none := by
    intro b hb
    cases hg : Hc.get b with
    | none => rfl
    | some o => obtain ⟨i, _, h1, _⟩ := hobj b o hg; have := hlt b i h1; omega
  let μc : Inj := fun b => (ρ b).bind μ
  have hμc : ∀ b i T, ρ b = some i → μ i = some T → μc b = some T := fun b i T h1 h2 => by show (ρ b).bind μ = _; rw [h1]; exact h2
  have hμc' : ∀ b T, μc b = some T → ∃ i, ρ b = some i ∧ μ i = some T := by
    intro b T h
    have h : (ρ b).bind μ = some T := h
    cases hb : ρ b with
    | none => rw [hb] at h; cases h
    | some i => rw [hb] at h; exact ⟨i, rfl, h⟩
  have hbw : ∀ b i T, ρ b = some i → μ i = some T → μc b = some T := hμc
  let Own : Nat → Prop := fun i => (∃ b o j T, Hc.get b = some o ∧ o.ro = false ∧ ρ b = some j ∧ μ j = some T ∧ i = T.c) ∨ (∃ b a j, Hc.get b = some (.abs a false) ∧ ρ b = some j ∧ φ j i)
  let Ec : Env := { base with K := fun i => i < W.heap.size ∧ ¬ Own i, mu0 := μc }
  have hownK : ∀ i, Own i → ¬ base.K i := by
    rintro i (⟨b, o, j, T, h1, h2, h3, h4, rfl⟩ | ⟨b, a, j, h1, h2, h3⟩) hk
    · obtain ⟨i2, o1, g1, g2, g3⟩ := hobj b o h1
      rw [h3] at g1; cases g1
      exact hH.own _ o1 g2 (by rw [(renO_ro g3).1]; exact h2) T h4 hk
    · obtain ⟨i2, o1, g1, g2, g3⟩ := hobj b _ h1
      rw [h2] at g1; cases g1
      cases g3
      obtain ⟨T, hT⟩ := hdom _ _ h2
      exact (q.rep _ a false T g2 hT).2 rfl i h3 hk
  have hHc : HRel Ec W μc Hc W := by
    refine ⟨?_, ?_, ?_, ?_, ?_, fun i hi => hi.1, fun _ _ => rfl, rfl, rfl, ?_, Inj.le_refl _, Nat.le_refl _⟩
    · intro b o hb T hT
      obtain ⟨i, o1, g1, g2, g3⟩ := hobj b o hb
      obtain ⟨i2, e1, e2⟩ := hμc' b T hT
      rw [g1] at e1; cases e1
      obtain ⟨o', r1, r2⟩ := hH.obj _ o1 g2 T e2
      exact ⟨o', r1, renO_bwd hbw g3 r2⟩
    · intro b o hb hr T hT hk
      obtain ⟨i2, e1, e2⟩ := hμc' b T hT
      exact hk.2 (.inl ⟨b, o, i2, T, hb, hr, e1, e2, rfl⟩)
    · intro b1 b2 o1 o2 h1 h2 T1 T2 m1 m2 hc
      obtain ⟨i1, e1, e2⟩ := hμc' b1 T1 m1
      obtain ⟨i2, e3, e4⟩ := hμc' b2 T2 m2
      obtain ⟨j1, p1, g1, g2, _⟩ := hobj b1 o1 h1
      obtain ⟨j2, p2, g3, g4, _⟩ := hobj b2 o2 h2
      rw [e1] at g1; cases g1
      rw [e3] at g3; cases g3
      have := hH.inj _ _ _ _ g2 g4 T1 T2 e2 e4 hc
      subst this
      exact hinj0 b1 b2 _ e1 e3
    · intro b hb
      refine ⟨hfree b hb, ?_⟩
      cases hm : μc b with
      | none => rfl
      | some T => obtain ⟨i, e1, _⟩ := hμc' b T hm; have := hlt _ _ e1; omega
    · intro b T hT
      obtain ⟨i, _, e2⟩ := hμc' b T hT
      exact hH.bound i T e2
    · refine ⟨fun b => match ρ b with | some j => φ j | none => fun _ => False, ?_, ?_⟩
      · intro b a ro T hb hT
        obtain ⟨i, o1, g1, g2, g3⟩ := hobj b _ hb
        obtain ⟨i2, e1, e2⟩ := hμc' b T hT
        rw [g1] at e1; cases e1
        cases g3
        obtain ⟨r1, _⟩ := q.rep _ a ro T g2 e2
        simp only [g1]
        refine ⟨r1, fun hro i hi hk => hk.2 (.inr ⟨b, a, _, by rw [← hro]; exact hb, g1, hi⟩)⟩
      · intro b a ro T hb hT b2 o2 T2 hb2 hT2 hne
        obtain ⟨i, o1, g1, g2, g3⟩ := hobj b _ hb
        obtain ⟨i2, e1, e2⟩ := hμc' b T hT
        rw [g1] at e1; cases e1
        cases g3
        obtain ⟨j, p1, g4, g5, g6⟩ := hobj b2 _ hb2
        obtain ⟨j2, e3, e4⟩ := hμc' b2 T2 hT2
        rw [g4] at e3; cases e3
        have hne2 : j ≠ i := by
          rintro rfl
          exact hne (hinj0 b2 b _ g4 g1)
        simp only [g1, g4]
        obtain ⟨r1, r2⟩ := q.far _ a ro T g2 e2 _ p1 T2 g5 e4 hne2
        exact ⟨r1, fun ea => r2 (by rw [(renO_ro g6).2.1]; exact ea)⟩
  have hlc : LaidRel X μc := by
    intro g hg
    obtain ⟨T, h1, h2⟩ := hlaid g hg
    exact ⟨T, hμc g g T (hlr g hg) h1, h2⟩
  have hWc : LaidW X Ec W := by
    refine ⟨hW.1, fun p hp => ?_⟩
    obtain ⟨h1, h2, a, t, fz, h3, h4⟩ := hW.2 p hp
    exact ⟨⟨hH.size _ h1, fun ho => hownK _ ho h1⟩, h2, a, t, fz, by rw [hH.below _ h1]; exact h3, h4⟩
  have hac : LRel μc argsc args'.toList := renL_bwd (ren_bwd hbw 6) _ _ _ hargs ha
  intro cs
  obtain ⟨c', ⟨vc, Hf, hd, ρ', hinj, hold, hnew, k2, hv⟩, μ1, fr1, cs1, W1, s1, m1⟩ := hrun Ec W (hok Ec W hWc) hplan cs μc _ [] W (start_rel hHc hlc he hac hn)
  obtain ⟨rfl, hf, v', h1, h2, h3⟩ := done_rel m1 hd
  have hs' : Steps X.P (lone (Frame.enter X.P f args' .normal) cs W) (lone fr1 cs W1) := by simpa using s1
  refine ⟨.returned v', W1, fr1, ?_, hs', hf, h1⟩
  have hle1 : μc.le μ1 := h2.le
  let μ' : Inj := fun i => if i < H.next then μ i else if hx : ∃ b, ρ' b = some i ∧ Hc.next ≤ b then μ1 hx.choose else none
  have hμold : ∀ i, i < H.next → μ' i = μ i := fun i hi => by show (if _ then _ else _) = _; rw [if_pos hi]
  have hμnew : ∀ b i, ρ' b = some i → Hc.next ≤ b → μ' i = μ1 b := by
    intro b i hb hge
    have hi := hnew b i hb hge
    show (if i < H.next then μ i else if hx : ∃ b, ρ' b = some i ∧ Hc.next ≤ b then μ1 hx.choose else none) = _
    rw [if_neg (by omega)]
    have hx : ∃ b, ρ' b = some i ∧ Hc.next ≤ b := ⟨b, hb, hge⟩
    rw [dif_pos hx, hinj _ b i hx.choose_spec.1 hb]
  have hμno : ∀ i, H.next ≤ i → (¬ ∃ b, ρ' b = some i ∧ Hc.next ≤ b) → μ' i = none := by
    intro i hi hx
    show (if i < H.next then μ i else if hx : ∃ b, ρ' b = some i ∧ Hc.next ≤ b then μ1 hx.choose else none) = _
    rw [if_neg (by omega), dif_neg hx]
  have hle : μ.le μ' := fun i T hT => by rw [hμold i (hH.lt_map hT)]; exact hT
  have hfw : ∀ b i T, ρ' b = some i → μ1 b = some T → μ' i = some T := by
    intro b i T hb hT
    rcases Nat.lt_or_ge b Hc.next with hlt' | hge
    · rw [hold b hlt'] at hb
      obtain ⟨T0, hT0⟩ := hdom b i hb
      have := hle1 b T0 (hμc b i T0 hb hT0)
      rw [hT] at this; cases this
      exact hle i T hT0
    · rw [hμnew b i hb hge]; exact hT
  -- where an object of the new heap comes from
  have hsrc : ∀ i o T, H'.get i = some o → μ' i = some T → (∃ b o0, ρ' b = some i ∧ Hf.get b = some o0 ∧ renO ρ' o0 = some o ∧ o0.ro = false ∧ μ1 b = some T) ∨
      (i < H.next ∧ H.get i = some o ∧ μ i = some T ∧ ∀ b o, Hc.get b = some o → o.ro = false → ρ b ≠ some i) := by
    intro i o T hi hT
    by_cases hc : H.next ≤ i ∨ ∃ b o0, Hc.get b = some o0 ∧ o0.ro = false ∧ ρ b = some i
    · obtain ⟨b, o0, g1, g2, g3, g4⟩ := k2 i o hi hc
      refine .inl ⟨b, o0, g1, g2, g3, g4, ?_⟩
      rcases Nat.lt_or_ge b Hc.next with hlt' | hge
      · have g1' := g1
        rw [hold b hlt'] at g1'
        have hiN' := hiN b i g1'
        rw [hμold i hiN'] at hT
        exact hle1 b T (hμc b i T g1' hT)
      · rw [← hμnew b i g1 hge]; exact hT
    · have hi1 : i < H.next := by
        rcases Nat.lt_or_ge i H.next with hh | hh
        · exact hh
        · exact absurd (.inl hh) hc
      have hnb : ∀ b o, Hc.get b = some o → o.ro = false → ρ b ≠ some i := fun b o g1 g2 g3 => hc (.inr ⟨b, o, g1, g2, g3⟩)
      rw [k1 i hi1 hnb] at hi
      rw [hμold i hi1] at hT
      exact .inr ⟨hi1, hi, hT, hnb⟩
  have hkept : ∀ i o T, i < H.next → H.get i = some o → μ i = some T → (∀ b o, Hc.get b = some o → o.ro = false → ρ b ≠ some i) → Ec.K T.c := by
    intro i o T hi ho hT hnb
    refine ⟨hH.bound i T hT, ?_⟩
    rintro (⟨b, o2, j, T2, g1, g2, g3, g4, g5⟩ | ⟨b, a, j, g1, g2, g3⟩)
    · obtain ⟨j2, p, e1, e2, e3⟩ := hobj b o2 g1
      rw [g3] at e1; cases e1
      have := hH.inj i j _ _ ho e2 T T2 hT g4 g5
      subst this
      exact hnb b o2 g1 g2 g3
    · obtain ⟨j2, p, e1, e2, e3⟩ := hobj b _ g1
      rw [g2] at e1; cases e1
      cases e3
      obtain ⟨T2, hT2⟩ := hdom _ _ g2
      have hne : i ≠ j := by rintro rfl; exact hnb b _ g1 rfl g2
      exact (q.far j a false T2 e2 hT2 i o T ho hT hne).1 g3
  have hnotK : ∀ b o T, Hf.get b = some o → o.ro = false → μ1 b = some T → ¬ base.K T.c := by
    intro b o T g1 g2 g3 hk
    have := h2.own b o g1 g2 T g3
    refine this ⟨hH.size _ hk, fun ho => hownK _ ho hk⟩
  obtain ⟨φ1, q1⟩ := h2.abs
  have hphiK : ∀ i a ro T, H.get i = some (.abs a ro) → μ i = some T → (∀ b o, Hc.get b = some o → o.ro = false → ρ b ≠ some i) → ∀ j, φ i j → Ec.K j := by
    intro i a ro T ho hT hnb j hj
    have hr := (q.rep i a ro T ho hT).1
    refine ⟨(base.bnd _ _ _ _ hr).2 j hj, ?_⟩
    rintro (⟨b, o2, j2, T2, g1, g2, g3, g4, rfl⟩ | ⟨b, a2, j2, g1, g2, g3⟩)
    · obtain ⟨j3, p, e1, e2, e3⟩ := hobj b o2 g1
      rw [g3] at e1; cases e1
      have hne : j2 ≠ i := by rintro rfl; exact hnb b o2 g1 g2 g3
      exact (q.far i a ro T ho hT j2 p T2 e2 g4 hne).1 hj
    · obtain ⟨j3, p, e1, e2, e3⟩ := hobj b _ g1
      rw [g2] at e1; cases e1
      cases e3
      obtain ⟨T2, hT2⟩ := hdom _ _ g2
      have hne : j2 ≠ i := by rintro rfl; exact hnb b _ g1 rfl g2
      exact (q.far i a ro T ho hT j2 _ T2 e2 hT2 hne).2 rfl j hj g3
  refine ⟨v', μ', rfl, ⟨?_, ?_, ?_, ?_, ?_, ?_, ?_, ?_, ?_, ?_, ?_, ?_⟩, ren_fwd hfw 6 _ _ _ hv h3, hle, hnext, ?_⟩
  · intro i o hi T hT
    rcases hsrc i o T hi hT with ⟨b, o0, g1, g2, g3, g4, g5⟩ | ⟨g1, g2, g3, g4⟩
    · obtain ⟨o', r1, r2⟩ := h2.obj b o0 g2 T g5
      exact ⟨o', r1, renO_fwd hfw g3 r2⟩
    · obtain ⟨o', r1, r2⟩ := hH.obj i o g2 T g3
      exact ⟨o', by rw [h2.below _ (hkept i o T g1 g2 g3 g4)]; exact r1, r2.mono hle⟩
  · intro i o hi hr T hT
    rcases hsrc i o T hi hT with ⟨b, o0, g1, g2, g3, g4, g5⟩ | ⟨g1, g2, g3, g4⟩
    · exact hnotK b o0 T g2 g4 g5
    · exact hH.own i o g2 hr T g3
  · intro i1 i2 o1 o2 e1 e2 T1 T2 m1 m2 hc
    rcases hsrc i1 o1 T1 e1 m1 with ⟨b1, p1, g1, g2, g3, g4, g5⟩ | ⟨g1, g2, g3, g4⟩ <;> rcases hsrc i2 o2 T2 e2 m2 with ⟨b2, p2, f1, f2, f3, f4, f5⟩ | ⟨f1, f2, f3, f4⟩
    · have := h2.inj b1 b2 _ _ g2 f2 T1 T2 g5 f5 hc
      subst this
      rw [g1] at f1; cases f1; rfl
    · exact absurd (hc ▸ hkept i2 o2 T2 f1 f2 f3 f4) (h2.own b1 p1 g2 g4 T1 g5)
    · exact absurd (hc ▸ hkept i1 o1 T1 g1 g2 g3 g4) (h2.own b2 p2 f2 f4 T2 f5)
    · exact hH.inj i1 i2 _ _ g2 f2 T1 T2 g3 f3 hc
  · intro i hi
    refine ⟨k3 i hi, hμno i (by omega) ?_⟩
    rintro ⟨b, g1, g2⟩
    have := (hnew b i g1 g2).2
    omega
  · intro i T hT
    rcases Nat.lt_or_ge i H.next with hh | hh
    · rw [hμold i hh] at hT
      have := hH.bound i T hT
      have := h2.grow
      omega
    · by_cases hx : ∃ b, ρ' b = some i ∧ Hc.next ≤ b
      · obtain ⟨b, g1, g2⟩ := hx
        rw [hμnew b i g1 g2] at hT
        exact h2.bound b T hT
      · rw [hμno i hh hx] at hT; cases hT
  · intro i hi; have := hH.size i hi; have := h2.grow; omega
  · intro i hi
    rw [h2.below i ⟨hH.size i hi, fun ho => hownK i ho hi⟩]
    exact hH.below i hi
  · rw [h2.out]; exact hH.out
  · rw [h2.os]; exact hH.os
  · let C : Nat → Nat → Prop := fun b i => ρ' b = some i ∧ (H.next ≤ i ∨ ∃ o1, Hc.get b = some o1 ∧ o1.ro = false)
    let φ' : Nat → Nat → Prop := fun i j => (∃ b, C b i ∧ φ1 b j) ∨ ((¬ ∃ b, C b i) ∧ φ i j)
    have hCin : ∀ b i, C b i → φ' i = φ1 b := by
      intro b i hb
      funext j
      refine propext ⟨?_, fun hj => .inl ⟨b, hb, hj⟩⟩
      rintro (⟨b2, g1, g2⟩ | ⟨g1, _⟩)
      · rw [hinj b b2 i hb.1 g1.1]; exact g2
      · exact absurd ⟨b, hb⟩ g1
    have hCout : ∀ i, i < H.next → (∀ b o, Hc.get b = some o → o.ro = false → ρ b ≠ some i) → φ' i = φ i := by
      intro i hi hnb
      have hno : ¬ ∃ b, C b i := by
        rintro ⟨b, g1, g2 | ⟨o1, g2, g3⟩⟩
        · omega
        · obtain ⟨i2, _, e1, _⟩ := hobj b o1 g2
          rw [hold b (hlt _ _ e1)] at g1
          exact hnb b o1 g2 g3 g1
      funext j
      refine propext ⟨?_, fun hj => .inr ⟨hno, hj⟩⟩
      rintro (⟨b2, g1, g2⟩ | ⟨_, g2⟩)
      · exact absurd ⟨b2, g1⟩ hno
      · exact g2
    have hsrc2 : ∀ i o T, H'.get i = some o → μ' i = some T → (∃ b o0, C b i ∧ Hf.get b = some o0 ∧ renO ρ' o0 = some o ∧ o0.ro = false ∧ μ1 b = some T) ∨
        (i < H.next ∧ H.get i = some o ∧ μ i = some T ∧ ∀ b o, Hc.get b = some o → o.ro = false → ρ b ≠ some i) := by
      intro i o T hi hT
      rcases hsrc i o T hi hT with ⟨b, o0, g1, g2, g3, g4, g5⟩ | h
      · by_cases hc : H.next ≤ i ∨ ∃ b o0, Hc.get b = some o0 ∧ o0.ro = false ∧ ρ b = some i
        · refine .inl ⟨b, o0, ⟨g1, ?_⟩, g2, g3, g4, g5⟩
          rcases hc with hc | ⟨b2, o2, e1, e2, e3⟩
          · exact .inl hc
          · have : b = b2 := hinj b b2 i g1 (by rw [hold b2 (hlt _ _ e3)]; exact e3)
            subst this
            exact .inr ⟨o2, e1, e2⟩
        · have hi1 : i < H.next := by
            rcases Nat.lt_or_ge i H.next with hh | hh
            · exact hh
            · exact absurd (.inl hh) hc
          have hnb : ∀ b o, Hc.get b = some o → o.ro = false → ρ b ≠ some i := fun b o g1 g2 g3 => hc (.inr ⟨b, o, g1, g2, g3⟩)
          rw [k1 i hi1 hnb] at hi
          rw [hμold i hi1] at hT
          exact .inr ⟨hi1, hi, hT, hnb⟩
      · exact .inr h
    refine ⟨φ', ?_, ?_⟩
    · intro i a ro T hi hT
      rcases hsrc2 i _ T hi hT with ⟨b, o0, g1, g2, g3, g4, g5⟩ | ⟨g1, g2, g3, g4⟩
      · have e0 := (renO_ro g3).2.2 a ro rfl
        subst e0
        obtain ⟨r1, r2⟩ := q1.rep b a ro T g2 g5
        rw [hCin b i g1]
        exact ⟨r1, fun hro j hj hk => r2 hro j hj ⟨hH.size j hk, fun ho => hownK j ho hk⟩⟩
      · obtain ⟨r1, r2⟩ := q.rep i a ro T g2 g3
        rw [hCout i g1 g4]
        exact ⟨base.loc _ _ _ _ _ r1 (fun j hj => h2.below j (hphiK i a ro T g2 g3 g4 j hj)), r2⟩
    · intro i a ro T hi hT i2 o2 T2 hi2 hT2 hne
      rcases hsrc2 i _ T hi hT with ⟨b, o0, g1, g2, g3, g4, g5⟩ | ⟨g1, g2, g3, g4⟩ <;> rcases hsrc2 i2 _ T2 hi2 hT2 with ⟨b2, p0, f1, f2, f3, f4, f5⟩ | ⟨f1, f2, f3, f4⟩
      · have e0 := (renO_ro g3).2.2 a ro rfl
        subst e0
        rw [hCin b i g1, hCin b2 i2 f1]
        have hbn : b2 ≠ b := by
          rintro rfl
          have := g1.1
          rw [f1.1] at this
          cases this; exact hne rfl
        obtain ⟨r1, r2⟩ := q1.far b a ro T g2 g5 b2 p0 T2 f2 f5 hbn
        exact ⟨r1, fun ea => r2 (by rw [← (renO_ro f3).2.1]; exact ea)⟩
      · have e0 := (renO_ro g3).2.2 a ro rfl
        subst e0
        rw [hCin b i g1, hCout i2 f1 f4]
        have hnk := (q1.rep b a ro T g2 g5).2 g4
        refine ⟨fun hc => hnk _ hc (hkept i2 o2 T2 f1 f2 f3 f4), fun ea j hj hj2 => ?_⟩
        obtain ⟨a2, ro2, rfl⟩ := isAbs_eq ea
        exact hnk _ hj (hphiK i2 a2 ro2 T2 f2 f3 f4 j hj2)
      · rw [hCout i g1 g4, hCin b2 i2 f1]
        refine ⟨fun hc => h2.own b2 p0 f2 f4 T2 f5 (hphiK i a ro T g2 g3 g4 _ hc), fun ea j hj hj2 => ?_⟩
        have ea0 : p0.isAbs = true := by rw [← (renO_ro f3).2.1]; exact ea
        obtain ⟨a2, ro2, rfl⟩ := isAbs_eq ea0
        exact (q1.rep b2 a2 ro2 T2 f2 f5).2 f4 j hj2 (hphiK i a ro T g2 g3 g4 _ hj)
      · rw [hCout i g1 g4, hCout i2 f1 f4]
        exact q.far i a ro T g2 g3 i2 o2 T2 f2 f3 hne
  · exact Inj.le_trans hH.le hle
  · have := hH.grow; have := h2.grow; omega
  · intro i hi hm
    refine ⟨by rw [hμold i hi]; exact hm, k1 i hi ?_⟩
    intro b o g1 g2 g3
    obtain ⟨T, hT⟩ := hdom b i g3
    rw [hm] at hT; cases hT
end Go.Ideal
