/-
  Part of the proof: the machine that runs a program by fixed orders, and that each of its runs is a run of the model; or a run of it in parts. No conditions.
-/
import Derived.Test.YtihjcloanpfkaaaGreatDoorC41r16
import Derived.Test.YtihjcloanpfkaaaGreatDoorIdVCs
set_option maxRecDepth 1000000
namespace Go.Ideal
open Go.Proofs
theorem allG (hA : AllOk Tryz.prog tabLaid bFs) (cr : Bool) : AllOk Tryz.prog tabLaid (gFs cr) := AllOk.cons iok_conf (AllOk.cons (iok_op hA cr) (AllOk.nil _ _))
theorem allH : AllOk Tryz.prog tabLaid hFs := AllOk.cons iok_cref (AllOk.cons iok_ro (AllOk.nil _ _))
theorem iok_rnd7c (hA : AllOk Tryz.prog tabLaid bFs) (c : Bool) : IOk Tryz.prog tabLaid 7 (footF tabLaid 20 [] (rndGc c)) := by
  refine iok_foot (fs := gFs c) (allG hA c) (by kernel_rfl) (n := 42) (by kernel_rfl) (by kernel_rfl) fun argsc objs x hx hro => ?_
  unfold rndGc at hx
  split at hx
  · rename_i a b nn cr
    cases hcr : (cr == c)
    · simp only [hcr, cond_false] at hx; cases hx
    · simp only [hcr, cond_true] at hx
      have hcr : cr = c := by simpa using hcr
      subst hcr
      have hx0 := hx
      unfold rndG at hx
      split at hx
      · rename_i s z r w k v p seed n cr' heq _
        cases heq
        exact ⟨by simp, EndsN.mono (r7_ends cr seed n) fun v' Hf h => rnd_match (by omega) hx0 h⟩
      · cases hx
  · cases hx
theorem iok_rnd7 (hA : AllOk Tryz.prog tabLaid bFs) : IOk Tryz.prog tabLaid 7 (footF tabLaid 20 [] rndG) := IOk.or (iok_rnd7c hA true) (iok_rnd7c hA false) (foot_or rnd_or)
theorem iok_rnd8 : IOk Tryz.prog tabLaid 8 (footF tabLaid 20 [] rndG) := by
  refine iok_foot (fs := hFs) allH (by kernel_rfl) (n := 39) (by kernel_rfl) (by kernel_rfl) fun argsc objs x hx hro => ?_
  have hx0 := hx
  unfold rndG at hx
  split at hx
  · rename_i s z r w k v p seed n cr
    exact ⟨by simp, EndsN.mono (r8_ends cr seed n (rnd_seed hx0)) fun v' Hf h => rnd_match (by omega) hx0 h⟩
  · cases hx
theorem eq_loop (l : List (EK.C kOp)) (hl : l.length ≤ 1000000) : ∀ (m i : Nat), l.length - i = m → i ≤ l.length → EndsN X0 22 9 (fun v' _ => v' = .bool true) (eqT l l l.length i) := by
  intro m
  induction m with
  | zero =>
    intro i hm hi
    refine VCs_ok (noPf_ok X0) (ids := []) (S := eqS) rfl (Q := fun v' _ => v' = .bool true) (R := fun _ => False) (fun v H h => h) (fun c h => h.elim) 3000 _ ?_
    rw [vc_eq1]
    refine bif_decide (fun h => by exfalso; omega) (fun _ => rfl)
  | succ m ih =>
    intro i hm hi
    have hlt : i < l.length := by omega
    refine VCs_ok (noPf_ok X0) (ids := []) (S := eqS) rfl (Q := fun v' _ => v' = .bool true) (R := fun c => c = eqT l l l.length (i + 1 : Nat)) (fun v H h => h) (fun c h => by rw [h]; exact ih (i + 1) (by omega) (by omega)) 3000 _ ?_
    rw [vc_eq1, wrap64 (x := (i : Int) + 1) (by omega) (by omega)]
    refine bif_decide (fun _ => ?_) (fun h => by exfalso; omega)
    refine bif_true (at_ok hlt) (bif_true (at_ok0 hlt) (bif_true (at_ok hlt) (bif_true (at_ok0 hlt) ?_)))
    refine bif_false (by simp) rfl
theorem eq_ends (l : List (EK.C kOp)) (hl : l.length ≤ 1000000) : EndsN X0 22 9 (fun v' _ => v' = .bool true) (st 9 26 [.slice (some ⟨20, 0, some 0⟩) l.length capU, .slice (some ⟨21, 0, some 0⟩) l.length capU] (putRows hp0 true [⟨kOp, l⟩, ⟨kOp, l⟩])) := by
  refine VCs_ok (noPf_ok X0) (ids := []) (S := eqS) rfl (Q := fun v' _ => v' = .bool true) (R := fun c => c = eqT l l l.length 0) (fun v H h => h) (fun c h => by rw [h]; exact eq_loop l hl l.length 0 (by omega) (by omega)) 3000 _ ?_
  rw [vc_eq0]
  exact bif_false (by simp) rfl
theorem iok_eq : IOk Tryz.prog tabLaid 9 (footF tabLaid 20 [] eqG) := by
  refine iok_foot (fs := []) (AllOk.nil _ _) (by kernel_rfl) (n := 26) (by kernel_rfl) (by kernel_rfl) fun argsc objs x hx hro => ?_
  unfold eqG at hx
  split at hx
  · cases hx
    refine ⟨by simp, EndsN.mono (Q := fun v' _ => v' = .bool true) (EndsIn.toN ?_) fun v' Hf h => ?_⟩
    · refine VC_ok (ids := []) (Q := fun v' _ => v' = .bool true) 3000 _ ?_
      show VC X0 9 [] _ 3000 (st 9 26 [.slice none 0 0, .slice none 0 0] hp0)
      rw [vc_eqn]
    · subst h
      exact tm_plain (by rfl)
  · rename_i n c m d l ro l2 ro2
    simp only [GT.run] at hx
    split at hx
    · rename_i hc
      obtain ⟨rfl, rfl, rfl, rfl, rfl, hl⟩ := hc
      cases hx
      refine ⟨by simp, EndsN.mono (eq_ends l hl) fun v' Hf h => ?_⟩
      subst h
      exact tm_plain (by rfl)
    · cases hx
  · cases hx
theorem allM (hw : KnownOk Tryz.prog tabLaid wrkK) (hA : AllOk Tryz.prog tabLaid bFs) : AllOk Tryz.prog tabLaid mFs := AllOk.cons (iok_known hw) (AllOk.cons (iok_rnd7 hA) (AllOk.cons iok_rnd8 (AllOk.cons iok_eq (AllOk.nil _ _))))
theorem pfM_ok : PfOk XRn pfM := by
  intro f F hf args H K hF
  unfold pfM at hf
  cases hb : (Nat.beq f 7 || Nat.beq f 8)
  rotate_left
  · rw [hb] at hf; cases hf
    rw [Bool.or_eq_true] at hb
    rcases hb with hb | hb
    · have := Nat.eq_of_beq_eq_true hb; subst this
      exact footPf_ok (X := XRn) rfl hF
    · have := Nat.eq_of_beq_eq_true hb; subst this
      exact footPf_ok (X := XRn) rfl hF
  rw [hb] at hf
  cases h2 : Nat.beq f 9
  · rw [h2] at hf; cases hf
  rw [h2] at hf; cases hf
  have := Nat.eq_of_beq_eq_true h2; subst this
  exact footPf_ok (X := XRn) rfl hF
theorem rnd_ends (s z r w k v p seed n : Int) (cr : Bool) (hs : seedIn seed) : EndsIn XRn 3 (fun v' _ => v' = .bool true) (st 3 47 [cfgV s z r w k v p, .int .u64 seed, .int .i64 n, .bool cr] hp0) := by
  refine VCp_ok pfM_ok (ids := []) (Q := fun v' _ => v' = .bool true) 4000 _ ?_
  have hl : ∀ c, n.toNat = (opsS z v c (seed % 4294967296) n.toNat).length := fun c => (opsS_length _ _ _ _ _).symm
  cases cr
  · rw [vc_rndf]
    refine bif_decide (fun h1 => bif_decide (fun _ => rfl) fun h2 => ?_) (fun h1 => ?_)
    · have h3 : n > 2000 := by omega
      cases hr : rnd1 s z r w k v p n <;> simp [hs, h3]
    · have h3 : ¬ n > 2000 := by omega
      by_cases h4 : n ≤ 0
      · cases hr : rnd1 s z r w k v p n <;> simp [hs, h3, h4]
      · cases hr : rnd1 s z r w k v p n <;> simp [hs, h3, h4, ← hl]
        omega
  · rw [vc_rndt]
    refine bif_decide (fun h1 => bif_decide (fun _ => rfl) fun h2 => ?_) (fun h1 => ?_)
    · have h3 : n > 2000 := by omega
      cases hr : rnd1 s z r w k v p n <;> simp [hs, h3]
    · have h3 : ¬ n > 2000 := by omega
      by_cases h4 : n ≤ 0
      · cases hr : rnd1 s z r w k v p n <;> simp [hs, h3, h4]
      · cases hr : rnd1 s z r w k v p n <;> simp [hs, h3, h4, ← hl]
        omega
end Go.Ideal
