/-
  Part of the proof: the machine that runs a program by fixed orders, and that each of its runs is a run of the model; or a run of it in parts. No conditions.
-/
import Derived.Test.YtfgamdmnljnonaaGreatDoorAbr
namespace Go.Ideal
noncomputable def VCu (X : Ctx) (pf : Pf) (f : FuncId) (ids : List Nat) (S : Stop) (P : Cfg → Bool) (Q : Value → List (Option IObj) → Prop) (R : Cfg → Prop) (n : Nat) : Cfg → Prop :=
  Nat.rec (motive := fun _ => Cfg → Prop) (fun _ => False) (fun _ ih c => match doneF X f c with
    | some (v, H) => Q v ((ids ++ refsN 4 v).map H.get)
    | none => bif S.here c && P c then (match S.can X c with
        | some c2 => R c2
        | none => False)
      else stepK X pf c ih) n
theorem VCu_ok {X : Ctx} {pf : Pf} (hpf : PfOk X pf) {f : FuncId} {ids : List Nat} {S : Stop} {P : Cfg → Bool} (hl : (X.laid.all fun p => Nat.blt p.1 S.N) = true) {Q : Value → List (Option IObj) → Prop} {R : Cfg → Prop} {Q' : Value → IHeap → Prop}
    (hQ : ∀ v H, Q v ((ids ++ refsN 4 v).map H.get) → Q' v H) (hR : ∀ c, R c → EndsN X S.N f Q' c) : ∀ (n : Nat) (c : Cfg), VCu X pf f ids S P Q R n c → EndsN X S.N f Q' c := by
  intro n
  induction n with
  | zero => intro c h; cases h
  | succ n ih =>
    intro c h
    have h : (match doneF X f c with
      | some (v, H) => Q v ((ids ++ refsN 4 v).map H.get)
      | none => bif S.here c && P c then (match S.can X c with
          | some c2 => R c2
          | none => False)
        else stepK X pf c (VCu X pf f ids S P Q R n)) := h
    split at h
    · rename_i v H e; exact ReachN.here ⟨v, H, e, hQ v H h⟩
    · cases hs : (S.here c && P c)
      · simp only [hs, cond_false] at h
        exact ReachN.bind (Reach.toN (stepK_ok hpf h)) fun c' hc => ih c' hc
      · simp only [hs, cond_true] at h
        split at h
        · rename_i c2 hc
          unfold Stop.can at hc
          split at hc
          · rename_i c1 h1
            cases hb : (Nat.ble S.N c1.H.next && (S.ids c1).all (fun b => Nat.blt b c1.H.next))
            · simp only [hb, cond_false] at hc; cases hc
            · simp only [hb, cond_true] at hc
              simp only [Bool.and_eq_true] at hb
              have hr := rwC_sim (X := X) hl (Nat.le_of_ble_eq_true hb.1) hb.2 hc (hR c2 h)
              exact ReachN.bind (Reach.toN ((Sim.step h1).reach (Φ := fun c' => c' = c1) rfl)) fun c' e => e ▸ hr
          · cases hc
        · cases h
noncomputable def rowAt (s : Nat) (c : Cfg) : Bool := match look c.fr.tmps s with
  | .slice (some _) _ _ => true
  | _ => false
end Go.Ideal
