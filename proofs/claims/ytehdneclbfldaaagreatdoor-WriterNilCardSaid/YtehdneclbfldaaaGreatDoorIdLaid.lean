/-
  Part of the proof: the machine that runs a program by fixed orders, and that each of its runs is a run of the model; or a run of it in parts. No conditions.
-/
import Derived.Test.YtehdneclbfldaaaGreatDoorIdGoes
import Derived.ProofKit
import Derived.OpenShut
import Derived.LaidMore
import Derived.MakeChecks
namespace Go.Ideal

/-! The cells that read as a datum. -/
def piecesB (bk : TypeId → DataW Unit → Option (List Value)) : List (TypeId × Nat × Nat) → List (DataW Unit) → Nat → Option (List Value)
  | [], [], _ => some []
  | (t, o, n) :: r, d :: ds, at' => bif Nat.beq o at' then
      match bk t d with
      | some c => bif Nat.beq c.length n then
          match piecesB bk r ds (at' + n) with
          | some l => some (c ++ l)
          | none => none
        else none
      | none => none
    else none
  | _, _, _ => none
def back (P : Program) : Nat → TypeId → DataW Unit → Option (List Value)
  | 0, _, _ => none
  | f + 1, t, d => match P.underlying t, d with
    | some .bool, .lit (.bool b) => some [.bool b]
    | some (.int _), .lit (.int k n) => some [.int k n]
    | some .string, .lit (.string s) => some [.string ⟨⟨s⟩⟩]
    | some (.struct fs), .agg ds => match piecesB (back P f) (fs.toList.map fun x => (x.type, x.offset, P.cellsOf x.type)) ds 0 with
      | some l => bif Nat.beq l.length (P.cellsOf t) then some l else none
      | none => none
    | some (.array n e), .agg ds => match piecesB (back P f) ((List.range n).map fun i => (e, i * P.cellsOf e, P.cellsOf e)) ds 0 with
      | some l => bif Nat.beq l.length (P.cellsOf t) then some l else none
      | none => none
    | _, _ => none

theorem pieces_ok {bk : TypeId → DataW Unit → Option (List Value)} {T : TypeId → List Value → Option (DataW Unit × List MemPlace)} (hT : ∀ t cs d ps l, T t cs = some (d, ps) → bk t d = some l → cs = l) (cs : List Value) :
    ∀ (L : List (TypeId × Nat × Nat)) (xs : List (DataW Unit × List MemPlace)) (o : Nat) (out : List Value), L.mapM (fun p => T p.1 ((cs.drop p.2.1).take p.2.2)) = some xs → piecesB bk L (xs.map (·.1)) o = some out → cs.drop o = out ++ cs.drop (o + out.length) := by
  intro L
  induction L with
  | nil =>
    intro xs o out h1 h2
    simp at h1
    subst h1
    simp [piecesB] at h2
    subst h2
    simp
  | cons p L ih =>
    intro xs o out h1 h2
    obtain ⟨t, o', n⟩ := p
    simp only [List.mapM_cons, Option.bind_eq_bind, Option.pure_def, Option.bind_eq_some_iff] at h1
    obtain ⟨x, hx, ys, hys, h1⟩ := h1
    cases h1
    simp only [List.map_cons, piecesB] at h2
    cases hb : Nat.beq o' o
    · rw [hb] at h2; cases h2
    · rw [hb] at h2
      simp only [cond_true] at h2
      obtain rfl := Nat.eq_of_beq_eq_true hb
      split at h2
      · rename_i c hc
        cases hl : Nat.beq c.length n
        · rw [hl] at h2; cases h2
        · rw [hl] at h2
          simp only [cond_true] at h2
          obtain rfl := Nat.eq_of_beq_eq_true hl
          split at h2
          · rename_i l hl2
            cases h2
            have e1 : (cs.drop o').take c.length = c := hT t _ x.1 x.2 c hx hc
            have e2 := ih ys _ l hys hl2
            have e3 : cs.drop o' = c ++ cs.drop (o' + c.length) := by
              rw [← List.drop_drop]
              conv => lhs; rw [← List.take_append_drop c.length (cs.drop o')]
              rw [e1]
            rw [e3, e2]
            simp [Nat.add_assoc]
          · cases h2
      · cases h2

theorem mapM_map' {α β γ : Type} (g : α → β) (f : β → Option γ) : ∀ l : List α, (l.map g).mapM f = l.mapM fun x => f (g x) := by
  intro l
  induction l with
  | nil => rfl
  | cons a l ih => simp only [List.map_cons, List.mapM_cons, ih]

theorem back_ok {P : Program} {w : World} {base : Nat} {sp : Nat → Bool} : ∀ (f fuel : Nat) (t : TypeId) (cs : List Value) (d : DataW Unit) (ps : List MemPlace) (l : List Value), DataW.trod (fun _ => ()) P w base sp false fuel t cs = some (d, ps) → back P f t d = some l → cs = l := by
  intro f
  induction f with
  | zero => intro fuel t cs d ps l _ h; cases h
  | succ f ih =>
    intro fuel t cs d ps l h hb
    cases fuel with
    | zero => cases h
    | succ fuel =>
      unfold back at hb
      split at hb
      · rename_i b hu
        cases hb
        unfold DataW.trod at h
        rw [hu] at h
        simp only at h
        split at h <;> first | (simp at h; done) | skip
        all_goals (try (rename_i e1 _; cases e1; done))
        all_goals (try (cases h; done))
        all_goals first
          | (cases h; rfl)
          | simp_all
      · rename_i k0 k n hu
        cases hb
        unfold DataW.trod at h
        rw [hu] at h
        simp only at h
        split at h
        all_goals first
          | (split at h; · rename_i hc; cases h; rw [hc.1]; · cases h)
          | simp_all
      · rename_i s hu
        cases hb
        unfold DataW.trod at h
        rw [hu] at h
        simp only at h
        split at h
        all_goals first
          | (split at h; · cases h; rfl; · cases h)
          | (simp_all; done)
          | (simp_all; obtain ⟨_, rfl, _⟩ := h; rfl)
      · rename_i fs ds hu
        split at hb
        · rename_i l2 hl2
          cases hn : Nat.beq l2.length (P.cellsOf t)
          · rw [hn] at hb; cases hb
          · rw [hn] at hb
            cases hb
            have hlen := Nat.eq_of_beq_eq_true hn
            have h' := h
            unfold DataW.trod at h'
            simp only [hu] at h'
            have key : ∃ xs, (fs.toList.mapM fun f => DataW.trod (fun _ => ()) P w base sp false fuel f.type ((cs.drop f.offset).take (P.cellsOf f.type))) = some xs ∧ ds = xs.map (·.1) ∧ cs.length = P.cellsOf t := by
              by_cases hc : cs.length = P.cellsOf t
              · rw [if_pos hc, Option.map_eq_some_iff] at h'
                obtain ⟨xs, hxs, e⟩ := h'
                cases e
                exact ⟨xs, hxs, rfl, hc⟩
              · rw [if_neg hc] at h'; cases h'
            obtain ⟨xs, hxs, rfl, hcl⟩ := key
            have hxs' : (fs.toList.map fun x => (x.type, x.offset, P.cellsOf x.type)).mapM (fun p => DataW.trod (fun _ => ()) P w base sp false fuel p.1 ((cs.drop p.2.1).take p.2.2)) = some xs := by
              rw [mapM_map']; exact hxs
            have := pieces_ok (fun t cs d ps l => ih fuel t cs d ps l) cs _ xs 0 l hxs' hl2
            simp only [List.drop_zero, Nat.zero_add] at this
            rw [this, List.drop_of_length_le (by omega), List.append_nil]
        · cases hb
      · rename_i n e ds hu
        split at hb
        · rename_i l2 hl2
          cases hn : Nat.beq l2.length (P.cellsOf t)
          · rw [hn] at hb; cases hb
          · rw [hn] at hb
            cases hb
            have hlen := Nat.eq_of_beq_eq_true hn
            have h' := h
            unfold DataW.trod at h'
            simp only [hu] at h'
            have key : ∃ xs, ((List.range n).mapM fun i => DataW.trod (fun _ => ()) P w base sp false fuel e ((cs.drop (i * P.cellsOf e)).take (P.cellsOf e))) = some xs ∧ ds = xs.map (·.1) ∧ cs.length = P.cellsOf t := by
              by_cases hc : cs.length = P.cellsOf t
              · rw [if_pos hc, Option.map_eq_some_iff] at h'
                obtain ⟨xs, hxs, e⟩ := h'
                cases e
                exact ⟨xs, hxs, rfl, hc⟩
              · rw [if_neg hc] at h'; cases h'
            obtain ⟨xs, hxs, rfl, hcl⟩ := key
            have hxs' : ((List.range n).map fun i => (e, i * P.cellsOf e, P.cellsOf e)).mapM (fun p => DataW.trod (fun _ => ()) P w base sp false fuel p.1 ((cs.drop p.2.1).take p.2.2)) = some xs := by
              rw [mapM_map']; exact hxs
            have := pieces_ok (fun t cs d ps l => ih fuel t cs d ps l) cs _ xs 0 l hxs' hl2
            simp only [List.drop_zero, Nat.zero_add] at this
            rw [this, List.drop_of_length_le (by omega), List.append_nil]
        · cases hb
      · cases hb

/-! What the listed variables are, and the listed cells. -/
def laidOf (P : Program) (x : String × DataW Unit) : Option (Nat × List Value) :=
  (P.globalNamed x.1).bind fun g => ((P.globals[g]?).map (·.type)).bind fun t => (back P 12 t x.2).map fun l => (g, l)

theorem laidVars_ok {P : Program} {w : World} : ∀ (laid : List (String × DataW Unit)) (L : List (Nat × List Value)) (ps : List MemPlace), laid.map (laidOf P) = L.map some → DataW.LaidVars P w laid ps → ∀ p ∈ L, ∃ a t fz, w.heap[p.1]? = some (.cells a t fz) ∧ a.toList = p.2 := by
  intro laid
  induction laid with
  | nil =>
    intro L ps h _ p hp
    cases L with
    | nil => cases hp
    | cons a l => simp at h
  | cons x laid ih =>
    intro L ps h hl p hp
    cases L with
    | nil => cases hp
    | cons q L =>
      simp only [List.map_cons, List.cons.injEq] at h
      obtain ⟨n, d⟩ := x
      obtain ⟨g, t, cs, fuel, p1, q1, h1, h2, h3, h4, h5, _⟩ := hl
      rcases List.mem_cons.1 hp with rfl | hp
      · have h0 := h.1
        simp only [laidOf, h1, Option.bind_some, h2, Option.map_eq_some_iff] at h0
        obtain ⟨l, hl, rfl⟩ := h0
        simp only [World.var?, h1, Option.bind_some] at h3
        split at h3
        · rename_i cs' t' fz hh
          cases h3
          exact ⟨_, _, _, hh, back_ok 12 fuel t _ d p1 l h4 hl⟩
        · cases h3
      · exact ih L q1 h.2 h5 p hp

/-- What the row lists, as the start of a run takes it. -/
theorem laidW_of {X : Ctx} {laid : List (String × DataW Unit)} {W : World} (hL : laidMetH X.P laid W) (hp : (laid.all fun x => x.2.handleName?.isNone) = true) (hm : laid.map (laidOf X.P) = X.laid.map some) (hnd : (X.laid.map Prod.fst).Nodup) (hf : (X.laid.all fun p => p.2.all flat) = true) : LaidW X W.heap.size W := by
  rw [MakeChecks.laidMetH_plain _ _ _ hp] at hL
  obtain ⟨ps, h1, _⟩ := hL
  refine ⟨hnd, fun p hp => ?_⟩
  obtain ⟨a, t, fz, h2, h3⟩ := laidVars_ok laid X.laid ps hm h1 p hp
  refine ⟨?_, List.all_eq_true.1 hf p hp, a, t, fz, h2, h3⟩
  exact (Array.getElem?_eq_some_iff.1 h2).1

/-! What was there is as it was. -/
def OldKept (W W' : World) : Prop := W'.os = W.os ∧ W'.output = W.output ∧ W.heap.size ≤ W'.heap.size ∧ ∀ i, i < W.heap.size → W'.heap[i]? = W.heap[i]?
theorem OldKept.refl (W : World) : OldKept W W := ⟨rfl, rfl, Nat.le_refl _, fun _ _ => rfl⟩
theorem HRel.oldKept {W W' : World} {μ : Inj} {H : IHeap} (h : HRel W.heap.size W μ H W') : OldKept W W' := ⟨h.os, h.out, h.size, h.below⟩
theorem OldKept.keptBut {W W' : World} (h : OldKept W W') (may : MemPlace → Prop) : W.keptBut W' may := by
  refine ⟨h.1, h.2.1, fun i hi => ?_⟩
  rw [h.2.2.2 i hi]
  exact (World.keptBut_refl W may).2.2 i hi

theorem post_of_old {H : Type} {enc : TypeId × Value → H} {P : Program} {f : Func} {s : ChangeSpec} {apart fresh handsOn again : Bool} {W W' : World} {args : Array Value} {v : Value} {ds gs : List (DataW H)} {before pa pv : List MemPlace}
    (hW : DataW.Whole enc P f.params.toList s.vars apart W args.toList ds gs before)
    (hres : ∀ (b : Nat) (sp : Nat → Bool) (hd : Bool), DataW.TrodAll enc P W' b sp hd f.resultTypes.toList (v.resultList f.resultTypes.size) (s.fn H (ds ++ gs)).results [])
    (hargs : ∀ sp : Nat → Bool, (∀ p ∈ before, sp p.block = true) → DataW.TrodAll enc P W' 0 sp true f.params.toList args.toList (s.fn H (ds ++ gs)).args pa)
    (hvars : ∀ sp : Nat → Bool, (∀ p ∈ before, sp p.block = true) → DataW.TrodVars enc P W' sp s.vars (s.fn H (ds ++ gs)).vars pv)
    (hps : before = pa ++ pv) (hk : OldKept W W')
    (hok : ∀ (j : Nat) (t : TypeId) (r : Value), f.resultTypes[j]? = some t → (v.resultList f.resultTypes.size)[j]? = some r → Value.okWide P W' .any 0 t r) :
    s.post enc P f apart fresh handsOn again W args v W' := by
  have hold : ∀ p ∈ before, (fun b => decide (b < W.heap.size)) p.block = true := fun p hp => by simpa using hW.lt p hp
  have hlt : ∀ p ∈ before, p.block < W.heap.size := fun p hp => hW.lt p hp
  refine ⟨ds, gs, before, [], pa, pv, hW, hres _ _ _, hargs _ hold, hvars _ hold, World.keptBut_mono (fun p hp => ⟨hp, ?_⟩) (hk.keptBut (· ∈ before)), fun _ => ?_⟩
  · rw [hps, List.mem_append] at hp
    exact Or.inr hp
  · obtain ⟨_, _, _, _, _, hz, hn⟩ := hW
    refine ⟨hok, _, _, ([] ++ pa) ++ pv, ⟨[] ++ pa, pv, ChangeShapes.trodAll_append (hargs _ (fun _ _ => rfl)) (hres _ _ _), hvars _ (fun _ _ => rfl), rfl, ?_, ?_⟩, ?_⟩
    · intro b off hp
      have hp' : MemPlace.cell b off ∈ before := by rw [hps]; simpa using hp
      have := hz b off hp'
      have hb : b < W.heap.size := hlt _ hp'
      unfold World.frozen? at this ⊢
      simp only at this ⊢
      rw [hk.2.2.2 b hb]; exact this
    · intro ha
      have := hn ha
      rw [hps] at this
      simpa using this
    · intro p hp _
      rw [hps]
      simpa using hp

theorem u8_range {a : Int} (wa : (Lit.int .u8 a).wf = true) : ∃ w : Nat, a = .ofNat w ∧ w < 256 := by
  have h : IntKind.u8.min ≤ a ∧ a ≤ IntKind.u8.max := by
    simpa [Lit.wf, Bool.and_eq_true] using wa
  have h1 : IntKind.u8.min = 0 := rfl
  have h2 : IntKind.u8.max = 255 := rfl
  rw [h1, h2] at h
  exact ⟨a.toNat, by simp; omega, by omega⟩

/-- A run by the ideal machine from the start that the row gives. -/
theorem walk_of {X : Ctx} {W : World} (hW : LaidW X W.heap.size W) (hok : IntrOk X W.heap.size W) (hplan : PlanOk X) {f : FuncId} {n N : Nat} (he : entry X.P f = some (n, pcOf X.P f [])) {args : List Value} {args' : Array Value} (ha : ∀ μ, LRel μ args args'.toList) (hn : args.length ≤ n) (hN : (X.laid.all fun p => Nat.blt p.1 N) = true)
    {v : Value} (hrun : ∃ c' H', Goes X (startC f (fillTmps 0 args .leaf) n (pcOf X.P f []) (heap0 X.laid N)) c' ∧ doneF X f c' = some (v, H')) (hv : flat v = true) :
    Calls X.P f args' W fun e W' => e = .returned v ∧ OldKept W W' := by
  obtain ⟨c', H', hg, hd⟩ := hrun
  obtain ⟨s1, s2⟩ := start0 hW (Nat.le_refl _) (all_lt hN)
  refine (calls_goes hok hplan s1 s2 he (ha _) hn hg hd).mono fun e W' ⟨v', μ', h1, h2, h3⟩ => ?_
  rw [flat_eq hv h3] at h1
  exact ⟨h1, h2.oldKept⟩

end Go.Ideal
