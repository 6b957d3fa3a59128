/-
  Part of the proof: the machine that runs a program by fixed orders, and that each of its runs is a run of the model; or a run of it in parts. No conditions.
-/
import Derived.Test.YtfgamdmnljnonaaGreatDoorAbr
namespace Go.Ideal
noncomputable def keepS (t : Tr Value) (l : List Nat) : Tr Value := liveT id t l
theorem keepS_rel {μ : Inj} {t : Tr Value} {n : Nat} {a : Array Value} (h : TRel μ t n a) (l : List Nat) : TRel μ (keepS t l) n a := by
  refine ⟨h.1, fun i => ?_⟩
  unfold keepS
  rcases look_liveT id t l i with e | e
  · rw [e]; exact .junk _
  · rw [e]; exact h.2 i
def noDreg : List IItem → Bool
  | [] => true
  | .dreg _ _ :: _ => false
  | _ :: r => noDreg r
def lookK : List (FuncId × List Nat) → FuncId → Option (List Nat)
  | [], _ => none
  | p :: r, f => bif Nat.beq p.1 f then some p.2 else lookK r f
noncomputable def thinFr (ks : List (FuncId × List Nat)) : IFrame → IFrame
  | ⟨fn, t, n, todo, ds, r, kd, rd⟩ => match lookK ks fn with
    | some l => ⟨fn, keepS t l, n, todo, ds, r, kd, rd⟩
    | none => ⟨fn, t, n, todo, ds, r, kd, rd⟩
noncomputable def thinH (ks : List (FuncId × List Nat)) : List Nat → IHeap → IHeap
  | [], H => H
  | b :: r, H => match (thinH ks r H).get b with
    | some (.loop ⟨st, pd, fn, t, n, ps, asg, bd, df⟩) => match lookK ks fn with
      | some l => (thinH ks r H).put b (.loop ⟨st, pd, fn, keepS t l, n, ps, asg, bd, df⟩)
      | none => thinH ks r H
    | _ => thinH ks r H
noncomputable def thinC (ks : List (FuncId × List Nat)) (bs : List Nat) (c : Cfg) : Cfg := ⟨c.fr, c.cs.map (thinFr ks), thinH ks bs c.H⟩
section
variable {X : Ctx} {base : Env} {W0 : World} {μ : Inj} {W : World} {N : Nat}
theorem thinH_rel {ks : List (FuncId × List Nat)} : ∀ (bs : List Nat) {H : IHeap}, HRel base W0 μ H W → HRel base W0 μ (thinH ks bs H) W
  | [], H, h => h
  | b :: r, H, h => by
    have h1 := thinH_rel r h (ks := ks)
    unfold thinH
    split
    · rename_i st pd fn t n ps asg bd df hb
      split
      · refine h1.swap hb (fun T o' ho => ?_) rfl rfl rfl
        cases ho with
        | loop _ a R ht hd => exact .loop T ⟨st, pd, fn, _, n, ps, asg, bd, df⟩ a R (keepS_rel ht _) hd
      · exact h1
    · exact h1
theorem top_plain {H H' : IHeap} {g : List Nat} {f : IFrame} {f' : Frame} (h : TopRel X μ H g f f') (hd : noDreg f.todo = true) : TopRel X μ H' [] f f' := by
  cases h with
  | plain fn t n tm todo todo' ds ds' r kd rd rd' ht hi hdd hr => exact .plain _ _ _ _ _ _ _ _ _ _ _ _ ht hi hdd hr
  | drawn => cases hd
theorem fr_thin {ks : List (FuncId × List Nat)} {H H' : IHeap} {g : List Nat} {f : IFrame} {f' : Frame} (h : FRel X μ H g f f') (hd : noDreg f.todo = true) : FRel X μ H' [] (thinFr ks f) f' := by
  cases h with
  | plain fn t n tm todo todo' ds ds' r kd rd rd' ht hi hdd hr =>
    unfold thinFr
    simp only
    split
    · exact .plain _ _ _ _ _ _ _ _ _ _ _ _ (keepS_rel ht _) hi hdd hr
    · exact .plain _ _ _ _ _ _ _ _ _ _ _ _ ht hi hdd hr
  | susp => cases hd
theorem frs_thin {ks : List (FuncId × List Nat)} {H H' : IHeap} {g : List Nat} {l : List IFrame} {l' : List Frame} (h : FsRel X μ H g l l') (hd : (l.all fun f => noDreg f.todo) = true) : FsRel X μ H' [] (l.map (thinFr ks)) l' := by
  induction h with
  | nil => exact .nil
  | cons hf _ ih =>
    simp only [List.all_cons, Bool.and_eq_true] at hd
    exact .cons (g := []) (gs := []) (fr_thin hf hd.1) (ih hd.2)
theorem thin_sim {ks : List (FuncId × List Nat)} {bs : List Nat} {c : Cfg} {Φ : Cfg → Prop} (h1 : noDreg c.fr.todo = true) (h2 : (c.cs.all fun f => noDreg f.todo) = true) (hr : ReachN X N (thinC ks bs c) Φ) : ReachN X N c Φ := by
  intro base W0 hb hok hplan cs0 μ fr cs W hm
  refine hr base W0 hb hok hplan cs0 μ fr cs W ?_
  obtain ⟨hH, hlaid, g, gs, hfr, hcs, hnd⟩ := hm
  exact ⟨thinH_rel bs hH, hlaid, [], [], top_plain hfr h1, frs_thin hcs h2, by simp⟩
end
noncomputable def Stop.canT (X : Ctx) (ks : List (FuncId × List Nat)) (S : Stop) (c : Cfg) : Option Cfg :=
  match stepI X c with
  | some c1 => bif noDreg c1.fr.todo && (c1.cs.all fun f => noDreg f.todo) then
      (bif Nat.ble S.N (thinC ks (S.ids c1) c1).H.next && (S.ids (thinC ks (S.ids c1) c1)).all (fun b => Nat.blt b (thinC ks (S.ids c1) c1).H.next) then
        rwC S.N (S.olds ++ S.ids (thinC ks (S.ids c1) c1)) (S.ids (thinC ks (S.ids c1) c1)) S.live (thinC ks (S.ids c1) c1) else none) else none
  | none => none
noncomputable def VCt (X : Ctx) (pf : Pf) (f : FuncId) (ids : List Nat) (S : Stop) (ks : List (FuncId × List Nat)) (Q : Value → List (Option IObj) → Prop) (R : Cfg → Prop) (n : Nat) : Cfg → Prop :=
  Nat.rec (motive := fun _ => Cfg → Prop) (fun _ => False) (fun _ ih c => match doneF X f c with
    | some (v, H) => Q v ((ids ++ refsN 4 v).map H.get)
    | none => bif S.here c then (match S.canT X ks c with
        | some c2 => R c2
        | none => False)
      else stepK X pf c ih) n
theorem VCt_ok {X : Ctx} {pf : Pf} (hpf : PfOk X pf) {f : FuncId} {ids : List Nat} {S : Stop} {ks : List (FuncId × List Nat)} (hl : (X.laid.all fun p => Nat.blt p.1 S.N) = true) {Q : Value → List (Option IObj) → Prop} {R : Cfg → Prop} {Q' : Value → IHeap → Prop}
    (hQ : ∀ v H, Q v ((ids ++ refsN 4 v).map H.get) → Q' v H) (hR : ∀ c, R c → EndsN X S.N f Q' c) : ∀ (n : Nat) (c : Cfg), VCt X pf f ids S ks Q R n c → EndsN X S.N f Q' c := by
  intro n
  induction n with
  | zero => intro c h; cases h
  | succ n ih =>
    intro c h
    have h : (match doneF X f c with
      | some (v, H) => Q v ((ids ++ refsN 4 v).map H.get)
      | none => bif S.here c then (match S.canT X ks c with
          | some c2 => R c2
          | none => False)
        else stepK X pf c (VCt X pf f ids S ks Q R n)) := h
    split at h
    · rename_i v H e; exact ReachN.here ⟨v, H, e, hQ v H h⟩
    · cases hs : S.here c
      · simp only [hs, cond_false] at h
        exact ReachN.bind (Reach.toN (stepK_ok hpf h)) fun c' hc => ih c' hc
      · simp only [hs, cond_true] at h
        split at h
        · rename_i c2 hc
          unfold Stop.canT at hc
          split at hc
          · rename_i c1 h1
            cases hd : (noDreg c1.fr.todo && (c1.cs.all fun f => noDreg f.todo))
            · simp only [hd, cond_false] at hc; cases hc
            · simp only [hd, cond_true] at hc
              simp only [Bool.and_eq_true] at hd
              cases hb : (Nat.ble S.N (thinC ks (S.ids c1) c1).H.next && (S.ids (thinC ks (S.ids c1) c1)).all (fun b => Nat.blt b (thinC ks (S.ids c1) c1).H.next))
              · simp only [hb, cond_false] at hc; cases hc
              · simp only [hb, cond_true] at hc
                simp only [Bool.and_eq_true] at hb
                have hr := rwC_sim (X := X) hl (Nat.le_of_ble_eq_true hb.1) hb.2 hc (hR c2 h)
                exact ReachN.bind (Reach.toN ((Sim.step h1).reach (Φ := fun c' => c' = c1) rfl)) fun c' e => e ▸ thin_sim hd.1 hd.2 hr
          · cases hc
        · cases h
end Go.Ideal
