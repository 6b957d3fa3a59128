/-
  Part of the proof: the machine that runs a program by fixed orders, and that each of its runs is a run of the model; or a run of it in parts. No conditions.
-/
import Derived.Test.YtnonaponcjffjaaGreatDoorC45
namespace Go.Ideal
open Go.Proofs
def cfgOk (s z r w k v p : Int) : Prop := 2 ≤ r ∧ r ≤ 8 ∧ r + 2 ≤ s ∧ s ≤ 32 ∧ 1 ≤ k ∧ k ≤ 32 ∧ 0 ≤ v ∧ v ≤ 512 ∧ 32 + k + v ≤ z ∧ z ≤ 8192 ∧ 2 * (32 + k + v) ≤ w ∧ w ≤ 65536 ∧ 1 ≤ p ∧ p ≤ 2
instance (s z r w k v p : Int) : Decidable (cfgOk s z r w k v p) := by unfold cfgOk; exact inferInstance
def cfgErr (s z r w k v p : Int) : Int := if cfgOk s z r w k v p then 0 else 2
theorem cfg_no {s z r w k v p : Int} (h : ¬ cfgOk s z r w k v p) : (Value.int .i64 2) = .int .i64 (cfgErr s z r w k v p) := by unfold cfgErr; rw [if_neg h]
theorem cfg_yes {s z r w k v p : Int} (h : cfgOk s z r w k v p) : (Value.int .i64 0) = .int .i64 (cfgErr s z r w k v p) := by unfold cfgErr; rw [if_pos h]
theorem conf_ends (s z r w k v p : Int) : EndsIn X0 43 (fun v' _ => v' = .int .i64 (cfgErr s z r w k v p)) (st 43 55 [cfgV s z r w k v p] (heap0 tabLaid 20)) := by
  refine (VC_ok (ids := []) (Q := fun v' _ => v' = .int .i64 (cfgErr s z r w k v p)) 1000 _ ?_)
  rw [vc_conf]
  repeat (refine ⟨rfl, ?_⟩)
  refine bif_decide (fun h => cfg_no (by unfold cfgOk; omega)) fun h1 => ?_
  refine bif_decide (fun h => cfg_no (by unfold cfgOk; omega)) fun h2 => ?_
  rw [wrap64 (x := r + 2) (by omega) (by omega)]
  refine bif_decide (fun h => cfg_no (by unfold cfgOk; omega)) fun h3 => ?_
  refine bif_decide (fun h => cfg_no (by unfold cfgOk; omega)) fun h4 => ?_
  refine bif_decide (fun h => cfg_no (by unfold cfgOk; omega)) fun h5 => ?_
  refine bif_decide (fun h => cfg_no (by unfold cfgOk; omega)) fun h6 => ?_
  refine bif_decide (fun h => cfg_no (by unfold cfgOk; omega)) fun h7 => ?_
  refine bif_decide (fun h => cfg_no (by unfold cfgOk; omega)) fun h8 => ?_
  rw [wrap64 (x := 16 + k) (by omega) (by omega), wrap64 (x := 16 + k + v) (by omega) (by omega), wrap64 (x := 16 + (16 + k + v)) (by omega) (by omega)]
  refine bif_decide (fun h => cfg_no (by unfold cfgOk; omega)) fun h9 => ?_
  refine bif_decide (fun h => cfg_no (by unfold cfgOk; omega)) fun h10 => ?_
  rw [wrap64 (x := 16 + k + v + 16) (by omega) (by omega), wrap64 (x := 2 * (16 + k + v + 16)) (by omega) (by omega)]
  refine bif_decide (fun h => cfg_no (by unfold cfgOk; omega)) fun h11 => ?_
  refine bif_decide (fun h => cfg_no (by unfold cfgOk; omega)) fun h12 => ?_
  refine bif_decide (fun h => cfg_no (by unfold cfgOk; omega)) fun h13 => ?_
  refine bif_decide (fun h => cfg_no (by unfold cfgOk; omega)) fun h14 => ?_
  exact cfg_yes (by unfold cfgOk; omega)
theorem ref_ends (s z r w k v p : Int) : EndsIn X0 21 (fun v' _ => v' = .int .i64 (cfgErr s z r w k v p)) (st 21 56 [cfgV s z r w k v p] (heap0 tabLaid 20)) := by
  refine (VC_ok (ids := []) (Q := fun v' _ => v' = .int .i64 (cfgErr s z r w k v p)) 1000 _ ?_)
  rw [vc_ref]
  repeat (refine ⟨rfl, ?_⟩)
  refine bif_decide (fun h1 => ?_) (fun h => cfg_no (by unfold cfgOk; omega))
  refine bif_decide (fun h2 => ?_) (fun h => cfg_no (by unfold cfgOk; omega))
  rw [wrap64 (x := r + 2) (by omega) (by omega)]
  refine bif_decide (fun h3 => ?_) (fun h => cfg_no (by unfold cfgOk; omega))
  refine bif_decide (fun h4 => ?_) (fun h => cfg_no (by unfold cfgOk; omega))
  refine bif_decide (fun h5 => ?_) (fun h => cfg_no (by unfold cfgOk; omega))
  refine bif_decide (fun h6 => ?_) (fun h => cfg_no (by unfold cfgOk; omega))
  refine bif_decide (fun h7 => ?_) (fun h => cfg_no (by unfold cfgOk; omega))
  refine bif_decide (fun h8 => ?_) (fun h => cfg_no (by unfold cfgOk; omega))
  rw [wrap64 (x := 16 + k) (by omega) (by omega), wrap64 (x := 16 + k + v) (by omega) (by omega), wrap64 (x := 16 + (16 + k + v)) (by omega) (by omega)]
  refine bif_decide (fun h9 => ?_) (fun h => cfg_no (by unfold cfgOk; omega))
  refine bif_decide (fun h10 => ?_) (fun h => cfg_no (by unfold cfgOk; omega))
  rw [wrap64 (x := 16 + k + v + 16) (by omega) (by omega), wrap64 (x := 2 * (16 + k + v + 16)) (by omega) (by omega)]
  refine bif_decide (fun h11 => ?_) (fun h => cfg_no (by unfold cfgOk; omega))
  refine bif_decide (fun h12 => ?_) (fun h => cfg_no (by unfold cfgOk; omega))
  refine bif_decide (fun h13 => ?_) (fun h => cfg_no (by unfold cfgOk; omega))
  refine bif_decide (fun h14 => ?_) (fun h => cfg_no (by unfold cfgOk; omega))
  exact cfg_yes (by unfold cfgOk; omega)
theorem iok_conf : IOk Tryz.prog tabLaid 43 (fConf cfgErr) :=
  iok_pure (fs := []) (AllOk.nil _ _) (by kernel_rfl) (n := 55) (N := 20) (by kernel_rfl) rfl (fun args v h => by
    split at h
    · rename_i s z r w k v p
      cases h
      exact ⟨rfl, by simp, rfl, conf_ends s z r w k v p⟩
    · cases h)
theorem iok_ref : IOk Tryz.prog tabLaid 21 (fConf cfgErr) :=
  iok_pure (fs := []) (AllOk.nil _ _) (by kernel_rfl) (n := 56) (N := 20) (by kernel_rfl) rfl (fun args v h => by
    split at h
    · rename_i s z r w k v p
      cases h
      exact ⟨rfl, by simp, rfl, ref_ends s z r w k v p⟩
    · cases h)
theorem allC : AllOk Tryz.prog tabLaid [(43, fConf cfgErr), (21, fConf cfgErr)] := AllOk.cons iok_conf (AllOk.cons iok_ref (AllOk.nil _ _))
theorem pfC_ok {X : Ctx} {g : G7} {e0 : Int} (h1 : X.intr 43 = some (fConf g)) (h2 : X.intr 21 = some (fConf g)) : PfOk X (pfC g e0) := by
  intro f F hf args H K hF
  unfold pfC at hf
  cases hb : (Nat.beq f 43 || Nat.beq f 21)
  · rw [hb] at hf; cases hf
  · rw [hb] at hf
    cases hf
    unfold pConf at hF
    split at hF
    · rename_i s z r w k v p
      obtain ⟨e, hk⟩ := hF
      refine ⟨_, _, ?_, hk⟩
      rw [Bool.or_eq_true] at hb
      rcases hb with hb | hb
      · have := Nat.eq_of_beq_eq_true hb
        subst this
        unfold intrAt
        simp only [h1, fConf, e]
      · have := Nat.eq_of_beq_eq_true hb
        subst this
        unfold intrAt
        simp only [h2, fConf, e]
    · cases hF
theorem pfXC (e0 : Int) : PfOk (XC cfgErr) (pfC cfgErr e0) := pfC_ok rfl rfl
theorem ceil_eq (a w : Int) (hw : 0 < w) (_ha : 0 ≤ a) : (a + w - 1) / w = if a / w * w < a then a / w + 1 else a / w := by
  have h1 := Int.mul_ediv_add_emod a w
  have h2 := Int.emod_nonneg a (by omega : w ≠ 0)
  have h3 := Int.emod_lt_of_pos a hw
  have hc : a / w * w = w * (a / w) := Int.mul_comm _ _
  by_cases h : a % w = 0
  · rw [if_neg (by omega)]
    have e : a + w - 1 = (w - 1) + w * (a / w) := by omega
    rw [e, Int.add_mul_ediv_left _ _ (by omega), Int.ediv_eq_zero_of_lt (by omega) (by omega)]
    omega
  · rw [if_pos (by omega)]
    have e : a + w - 1 = (a % w - 1) + w * (a / w + 1) := by rw [Int.mul_add]; omega
    rw [e, Int.add_mul_ediv_left _ _ (by omega), Int.ediv_eq_zero_of_lt (by omega) (by omega)]
    omega
def slc (z w : Int) : Int := (2 * z + w - 1) / w + 4
def entA (s z r w k v p : Int) : Int := if cfgOk s z r w k v p then 3 * s * slc z w else 0
def vicA (s z r w k v p : Int) : Int := if cfgOk s z r w k v p then 3 * s else 0
def limA (s z r : Int) : Int := (s - r - 2) * (z - 16) / 2
def segIn (c s z r w k v p : Int) : Prop := cfgOk s z r w k v p ∧ 0 ≤ c ∧ c ≤ limA s z r
instance (c s z r w k v p : Int) : Decidable (segIn c s z r w k v p) := by unfold segIn; exact inferInstance
def segA (c s z r w k v p : Int) : Int := if segIn c s z r w k v p then (if c = 0 then 0 else 2 * (c / (z - 15)) + 1) else 0
def segE (c s z r w k v p : Int) : Int := if segIn c s z r w k v p then 0 else 2
section
variable {s z r w k v p c : Int}
theorem slc_bnd (hz : 0 ≤ z) (hz2 : z ≤ 8192) (hw : 66 ≤ w) (hw2 : w ≤ 65536) : 0 ≤ (2 * z + w - 1) / w ∧ (2 * z + w - 1) / w ≤ 90000 := by
  have h1 : 0 ≤ (2 * z + w - 1) / w := Int.ediv_nonneg (by omega) (by omega)
  have h2 := Int.ediv_le_self w (by omega : 0 ≤ 2 * z + w - 1)
  omega
theorem mul_bnd {a b A B : Int} (h0 : 0 ≤ a) (h1 : a ≤ A) (h2 : 0 ≤ b) (h3 : b ≤ B) : 0 ≤ a * b ∧ a * b ≤ A * B :=
  ⟨Int.mul_nonneg h0 h2, Int.mul_le_mul h1 h3 h2 (by omega)⟩
theorem ent_ends (s z r w k v p : Int) : EndsIn (XC cfgErr) 6 (fun v' _ => v' = t2 (entA s z r w k v p) (cfgErr s z r w k v p)) (st 6 9 [cfgV s z r w k v p] (heap0 tabLaid 20)) := by
  by_cases h : cfgOk s z r w k v p
  · refine VCp_ok (pfXC 0) (ids := []) (Q := fun v' _ => v' = t2 (entA s z r w k v p) (cfgErr s z r w k v p)) 3000 _ ?_
    rw [vc_ent0]
    have e : cfgErr s z r w k v p = 0 := if_pos h
    refine ⟨e, e, rfl, rfl, rfl, rfl, rfl, rfl, e, ?_⟩
    have e2 : entA s z r w k v p = 3 * s * slc z w := if_pos h
    unfold cfgOk at h
    refine bif_decide (fun hw => ?_) (fun hw => by omega)
    show _ = t2 _ _
    rw [e, e2]
    have hb := slc_bnd (z := z) (w := w) (by omega) (by omega) (by omega) (by omega)
    rw [wrap64 (x := 3 * s) (by omega) (by omega), wrap64 (x := 2 * z) (by omega) (by omega), wrap64 (x := 2 * z + w) (by omega) (by omega), wrap64 (x := 2 * z + w - 1) (by omega) (by omega),
      Int.tdiv_eq_ediv_of_nonneg (by omega)]
    have hm := mul_bnd (a := 3 * s) (b := (2 * z + w - 1) / w + 4) (A := 96) (B := 90004) (by omega) (by omega) (by omega) (by omega)
    rw [wrap64 (x := (2 * z + w - 1) / w) (by omega) (by omega), wrap64 (x := (2 * z + w - 1) / w + 4) (by omega) (by omega), wrap64 (by omega) (by omega)]
    rfl
  · refine VCp_ok (pfXC 2) (ids := []) (Q := fun v' _ => v' = t2 (entA s z r w k v p) (cfgErr s z r w k v p)) 3000 _ ?_
    rw [vc_ent2]
    refine ⟨if_neg h, ?_⟩
    show _ = t2 _ _
    unfold entA cfgErr
    rw [if_neg h, if_neg h]
    rfl
theorem rent_ends (s z r w k v p : Int) : EndsIn (XC cfgErr) 7 (fun v' _ => v' = t2 (entA s z r w k v p) (cfgErr s z r w k v p)) (st 7 24 [cfgV s z r w k v p] (heap0 tabLaid 20)) := by
  by_cases h : cfgOk s z r w k v p
  · refine VCp_ok (pfXC 0) (ids := []) (Q := fun v' _ => v' = t2 (entA s z r w k v p) (cfgErr s z r w k v p)) 3000 _ ?_
    rw [vc_rent0]
    have e : cfgErr s z r w k v p = 0 := if_pos h
    refine ⟨e, e, ?_⟩
    have e2 : entA s z r w k v p = 3 * s * slc z w := if_pos h
    unfold cfgOk at h
    refine bif_decide (fun hw => ?_) (fun hw => by omega)
    have hq0 : 0 ≤ 2 * z / w := Int.ediv_nonneg (by omega) (by omega)
    have hq1 := Int.ediv_le_self w (by omega : 0 ≤ 2 * z)
    have hq2 := Int.ediv_mul_le (2 * z) (by omega : w ≠ 0)
    have hq3 : 0 ≤ 2 * z / w * w := Int.mul_nonneg hq0 (by omega)
    have hc := ceil_eq (2 * z) w (by omega) (by omega)
    rw [wrap64 (x := 3 * s) (by omega) (by omega), wrap64 (x := 2 * z) (by omega) (by omega), Int.tdiv_eq_ediv_of_nonneg (by omega), wrap64 (x := 2 * z / w) (by omega) (by omega), wrap64 (x := 2 * z / w * w) (by omega) (by omega),
      wrap64 (x := 2 * z / w + 1) (by omega) (by omega), wrap64 (x := 2 * z / w + 1 + 4) (by omega) (by omega), wrap64 (x := 2 * z / w + 4) (by omega) (by omega)]
    refine bif_decide (fun hl => ?_) (fun hl => ?_)
    · show _ = t2 _ _
      rw [if_pos hl] at hc
      have hm := mul_bnd (a := 3 * s) (b := 2 * z / w + 1 + 4) (A := 96) (B := 90004) (by omega) (by omega) (by omega) (by omega)
      rw [wrap64 (by omega) (by omega), e, e2]
      unfold slc
      rw [hc]
      rfl
    · show _ = t2 _ _
      rw [if_neg hl] at hc
      have hm := mul_bnd (a := 3 * s) (b := 2 * z / w + 4) (A := 96) (B := 90004) (by omega) (by omega) (by omega) (by omega)
      rw [wrap64 (by omega) (by omega), e, e2]
      unfold slc
      rw [hc]
      rfl
  · refine VCp_ok (pfXC 2) (ids := []) (Q := fun v' _ => v' = t2 (entA s z r w k v p) (cfgErr s z r w k v p)) 3000 _ ?_
    rw [vc_rent2]
    refine ⟨if_neg h, if_neg h, ?_⟩
    show _ = t2 _ _
    unfold entA cfgErr
    rw [if_neg h, if_neg h]
    rfl
theorem vic_ends (s z r w k v p : Int) : EndsIn (XC cfgErr) 8 (fun v' _ => v' = t2 (vicA s z r w k v p) (cfgErr s z r w k v p)) (st 8 9 [cfgV s z r w k v p] (heap0 tabLaid 20)) := by
  by_cases h : cfgOk s z r w k v p
  · refine VCp_ok (pfXC 0) (ids := []) (Q := fun v' _ => v' = t2 (vicA s z r w k v p) (cfgErr s z r w k v p)) 3000 _ ?_
    rw [vc_vic0]
    have e : cfgErr s z r w k v p = 0 := if_pos h
    have e2 : vicA s z r w k v p = 3 * s := if_pos h
    refine ⟨e, e, rfl, rfl, rfl, rfl, rfl, rfl, e, ?_⟩
    unfold cfgOk at h
    refine bif_decide (fun hw => ?_) (fun hw => by omega)
    show _ = t2 _ _
    rw [e, e2, wrap64 (x := 3 * s) (by omega) (by omega)]
    rfl
  · refine VCp_ok (pfXC 2) (ids := []) (Q := fun v' _ => v' = t2 (vicA s z r w k v p) (cfgErr s z r w k v p)) 3000 _ ?_
    rw [vc_vic2]
    refine ⟨if_neg h, ?_⟩
    show _ = t2 _ _
    unfold vicA cfgErr
    rw [if_neg h, if_neg h]
    rfl
theorem rvic_ends (s z r w k v p : Int) : EndsIn (XC cfgErr) 9 (fun v' _ => v' = t2 (vicA s z r w k v p) (cfgErr s z r w k v p)) (st 9 10 [cfgV s z r w k v p] (heap0 tabLaid 20)) := by
  by_cases h : cfgOk s z r w k v p
  · refine VCp_ok (pfXC 0) (ids := []) (Q := fun v' _ => v' = t2 (vicA s z r w k v p) (cfgErr s z r w k v p)) 3000 _ ?_
    rw [vc_rvic0]
    have e : cfgErr s z r w k v p = 0 := if_pos h
    have e2 : vicA s z r w k v p = 3 * s := if_pos h
    refine ⟨e, ?_⟩
    unfold cfgOk at h
    show _ = t2 _ _
    rw [e, e2, wrap64 (x := 3 * s) (by omega) (by omega)]
    rfl
  · refine VCp_ok (pfXC 2) (ids := []) (Q := fun v' _ => v' = t2 (vicA s z r w k v p) (cfgErr s z r w k v p)) 3000 _ ?_
    rw [vc_rvic2]
    refine ⟨if_neg h, ?_⟩
    show _ = t2 _ _
    unfold vicA cfgErr
    rw [if_neg h, if_neg h]
    rfl
theorem lim_bnd (h1 : 0 ≤ s - r - 2) (h2 : s - r - 2 ≤ 28) (h3 : 0 ≤ z - 16) (h4 : z - 16 ≤ 8176) : 0 ≤ (s - r - 2) * (z - 16) ∧ (s - r - 2) * (z - 16) ≤ 228928 := mul_bnd h1 h2 h3 h4
theorem seg_ends (s z r w k v p c : Int) : EndsIn (XC cfgErr) 10 (fun v' _ => v' = t2 (segA c s z r w k v p) (segE c s z r w k v p)) (st 10 18 [cfgV s z r w k v p, .int .i64 c] (heap0 tabLaid 20)) := by
  by_cases h : cfgOk s z r w k v p
  · refine VCp_ok (pfXC 0) (ids := []) (Q := fun v' _ => v' = t2 (segA c s z r w k v p) (segE c s z r w k v p)) 3000 _ ?_
    rw [vc_seg0]
    have e : cfgErr s z r w k v p = 0 := if_pos h
    refine ⟨e, e, rfl, rfl, rfl, rfl, rfl, rfl, e, ?_⟩
    have h0 := h
    unfold cfgOk at h
    have hl := lim_bnd (s := s) (z := z) (r := r) (by omega) (by omega) (by omega) (by omega)
    refine bif_decide (fun hw => ?_) (fun hw => by omega)
    refine bif_decide (fun hc => ?_) (fun hc => ?_)
    · have hn : ¬ segIn c s z r w k v p := fun q => by have := q.2.1; omega
      show _ = t2 _ _
      unfold segA segE; rw [if_neg hn, if_neg hn]; rfl
    rw [wrap64 (x := s - r) (by omega) (by omega), wrap64 (x := s - r - 2) (by omega) (by omega), wrap64 (x := z - 16) (by omega) (by omega), wrap64 (x := (s - r - 2) * (z - 16)) (by omega) (by omega),
      Int.tdiv_eq_ediv_of_nonneg (by omega), wrap64 (x := (s - r - 2) * (z - 16) / 2) (by omega) (by omega)]
    refine bif_decide (fun hg => ?_) (fun hg => ?_)
    · have hn : ¬ segIn c s z r w k v p := fun q => by have := q.2.2; unfold limA at this; omega
      show _ = t2 _ _
      unfold segA segE; rw [if_neg hn, if_neg hn]; rfl
    have hy : segIn c s z r w k v p := ⟨h0, by omega, by unfold limA; omega⟩
    refine bif_both (fun hz => ?_) (fun hz => ?_)
    · have hz : c = 0 := by simpa using hz
      show _ = t2 _ _
      unfold segA segE; rw [if_pos hy, if_pos hy, if_pos hz]; rfl
    have hz : c ≠ 0 := by simpa using hz
    rw [wrap64 (x := z - 16 + 1) (by omega) (by omega), show z - 16 + 1 = z - 15 from by omega]
    refine bif_decide (fun hd => ?_) (fun hd => by omega)
    have hq0 : 0 ≤ c / (z - 15) := Int.ediv_nonneg (by omega) (by omega)
    have hq1 := Int.ediv_le_self (z - 15) (by omega : 0 ≤ c)
    rw [Int.tdiv_eq_ediv_of_nonneg (by omega), wrap64 (x := c / (z - 15)) (by omega) (by omega), wrap64 (x := 2 * (c / (z - 15))) (by omega) (by omega), wrap64 (x := 2 * (c / (z - 15)) + 1) (by omega) (by omega)]
    refine bif_decide (fun hl => by omega) (fun hl => ?_)
    show _ = t2 _ _
    unfold segA segE; rw [if_pos hy, if_pos hy, if_neg hz]; rfl
  · refine VCp_ok (pfXC 2) (ids := []) (Q := fun v' _ => v' = t2 (segA c s z r w k v p) (segE c s z r w k v p)) 3000 _ ?_
    rw [vc_seg2]
    refine ⟨if_neg h, ?_⟩
    have hn : ¬ segIn c s z r w k v p := fun q => h q.1
    show _ = t2 _ _
    unfold segA segE; rw [if_neg hn, if_neg hn]; rfl
theorem rseg_ends (s z r w k v p c : Int) : EndsIn (XC cfgErr) 11 (fun v' _ => v' = t2 (segA c s z r w k v p) (segE c s z r w k v p)) (st 11 39 [cfgV s z r w k v p, .int .i64 c] (heap0 tabLaid 20)) := by
  by_cases h : cfgOk s z r w k v p
  · refine VCp_ok (pfXC 0) (ids := []) (Q := fun v' _ => v' = t2 (segA c s z r w k v p) (segE c s z r w k v p)) 3000 _ ?_
    rw [vc_rseg0]
    have e : cfgErr s z r w k v p = 0 := if_pos h
    refine ⟨e, ?_⟩
    have h0 := h
    unfold cfgOk at h
    have hl := lim_bnd (s := s) (z := z) (r := r) (by omega) (by omega) (by omega) (by omega)
    refine bif_decide (fun hc => ?_) (fun hc => ?_)
    · have hn : ¬ segIn c s z r w k v p := fun q => by have := q.2.1; omega
      show _ = t2 _ _
      unfold segA segE; rw [if_neg hn, if_neg hn]; rfl
    rw [wrap64 (x := s - r) (by omega) (by omega), wrap64 (x := s - r - 2) (by omega) (by omega), wrap64 (x := z - 16) (by omega) (by omega), wrap64 (x := (s - r - 2) * (z - 16)) (by omega) (by omega),
      Int.tdiv_eq_ediv_of_nonneg (by omega), wrap64 (x := (s - r - 2) * (z - 16) / 2) (by omega) (by omega)]
    refine bif_decide (fun hg => ?_) (fun hg => ?_)
    · have hn : ¬ segIn c s z r w k v p := fun q => by have := q.2.2; unfold limA at this; omega
      show _ = t2 _ _
      unfold segA segE; rw [if_neg hn, if_neg hn]; rfl
    have hy : segIn c s z r w k v p := ⟨h0, by omega, by unfold limA; omega⟩
    refine bif_both (fun hz => ?_) (fun hz => ?_)
    · have hz : c = 0 := by simpa using hz
      show _ = t2 _ _
      unfold segA segE; rw [if_pos hy, if_pos hy, if_pos hz]; rfl
    have hz : c ≠ 0 := by simpa using hz
    refine ⟨e, ?_⟩
    rw [wrap64 (x := z - 16 + 1) (by omega) (by omega), show z - 16 + 1 = z - 15 from by omega]
    refine bif_decide (fun hd => ?_) (fun hd => by omega)
    have hq0 : 0 ≤ c / (z - 15) := Int.ediv_nonneg (by omega) (by omega)
    have hq1 := Int.ediv_le_self (z - 15) (by omega : 0 ≤ c)
    rw [Int.tdiv_eq_ediv_of_nonneg (by omega), wrap64 (x := c / (z - 15)) (by omega) (by omega), wrap64 (x := 2 * (c / (z - 15))) (by omega) (by omega), wrap64 (x := 2 * (c / (z - 15)) + 1) (by omega) (by omega)]
    show _ = t2 _ _
    unfold segA segE; rw [if_pos hy, if_pos hy, if_neg hz]; rfl
  · refine VCp_ok (pfXC 2) (ids := []) (Q := fun v' _ => v' = t2 (segA c s z r w k v p) (segE c s z r w k v p)) 3000 _ ?_
    rw [vc_rseg2]
    refine ⟨if_neg h, ?_⟩
    have hn : ¬ segIn c s z r w k v p := fun q => h q.1
    show _ = t2 _ _
    unfold segA segE; rw [if_neg hn, if_neg hn]; rfl
end
end Go.Ideal
