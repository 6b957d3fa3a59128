/-
  Part of the proof: the machine that runs a program by fixed orders, and that each of its runs is a run of the model; or a run of it in parts. No conditions.
-/
import Derived.Test.YtnonaponcjffjaaGreatDoorC45g
import Derived.Test.YtnonaponcjffjaaGreatDoorC45c
set_option maxRecDepth 1000000
namespace Go.Ideal
open Go.Proofs
def mRf : G7 := fun n0 _ _ _ _ _ _ => 2 + n0 % 7
def mKf : G7 := fun _ n1 _ _ _ _ _ => 1 + n1 % 32
def mVf : G7 := fun _ _ n2 _ _ _ _ => n2 % 513
def mPf : G7 := fun _ _ _ n3 _ _ _ => 1 + n3 % 2
def mSf : G7 := fun n0 _ _ _ n4 _ _ => 2 + n0 % 7 + 2 + n4 % (32 - (2 + n0 % 7) - 1)
def mZf : G7 := fun _ n1 n2 _ _ n5 _ => 16 + (16 + (1 + n1 % 32) + n2 % 513) + n5 % (8176 - (16 + (1 + n1 % 32) + n2 % 513) + 1)
def mWf : G7 := fun _ n1 n2 _ _ _ n6 => 2 * (16 + (1 + n1 % 32) + n2 % 513 + 16) + n6 % (65536 - 2 * (16 + (1 + n1 % 32) + n2 % 513 + 16) + 1)
theorem emod_in {n m : Int} (h : 0 < m) : 0 ≤ n % m ∧ n % m < m := ⟨Int.emod_nonneg _ (by omega), Int.emod_lt_of_pos _ h⟩
theorem made_ok (n0 n1 n2 n3 n4 n5 n6 : Int) : cfgOk (mSf n0 n1 n2 n3 n4 n5 n6) (mZf n0 n1 n2 n3 n4 n5 n6) (mRf n0 n1 n2 n3 n4 n5 n6) (mWf n0 n1 n2 n3 n4 n5 n6) (mKf n0 n1 n2 n3 n4 n5 n6) (mVf n0 n1 n2 n3 n4 n5 n6) (mPf n0 n1 n2 n3 n4 n5 n6) := by
  have h0 := emod_in (n := n0) (m := 7) (by omega)
  have h1 := emod_in (n := n1) (m := 32) (by omega)
  have h2 := emod_in (n := n2) (m := 513) (by omega)
  have h3 := emod_in (n := n3) (m := 2) (by omega)
  unfold mSf mZf mRf mWf mKf mVf mPf cfgOk
  generalize n0 % 7 = A at *
  generalize n1 % 32 = B at *
  generalize n2 % 513 = C at *
  generalize n3 % 2 = D at *
  have h4 := emod_in (n := n4) (m := 32 - (2 + A) - 1) (by omega)
  have h5 := emod_in (n := n5) (m := 8176 - (16 + (1 + B) + C) + 1) (by omega)
  have h6 := emod_in (n := n6) (m := 65536 - 2 * (16 + (1 + B) + C + 16) + 1) (by omega)
  omega
theorem made_ends (n0 n1 n2 n3 n4 n5 n6 : Int) (g0 : u32In n0) (g1 : u32In n1) (g2 : u32In n2) (g3 : u32In n3) (g4 : u32In n4) (g5 : u32In n5) (g6 : u32In n6) :
    EndsIn X0 13 (fun v' _ => v' = cfgV (mSf n0 n1 n2 n3 n4 n5 n6) (mZf n0 n1 n2 n3 n4 n5 n6) (mRf n0 n1 n2 n3 n4 n5 n6) (mWf n0 n1 n2 n3 n4 n5 n6) (mKf n0 n1 n2 n3 n4 n5 n6) (mVf n0 n1 n2 n3 n4 n5 n6) (mPf n0 n1 n2 n3 n4 n5 n6)) (st 13 70 [nV n0 n1 n2 n3 n4 n5 n6] (heap0 tabLaid 20)) := by
  refine VC_ok (ids := []) (Q := fun v' _ => v' = cfgV _ _ _ _ _ _ _) 3000 _ ?_
  rw [vc_made]
  have h0 := emod_in (n := n0) (m := 7) (by omega)
  have h1 := emod_in (n := n1) (m := 32) (by omega)
  have h2 := emod_in (n := n2) (m := 513) (by omega)
  have h3 := emod_in (n := n3) (m := 2) (by omega)
  unfold u32In at *
  unfold mSf mZf mRf mWf mKf mVf mPf
  rw [Int.tmod_eq_emod_of_nonneg g0.1, Int.tmod_eq_emod_of_nonneg g1.1, Int.tmod_eq_emod_of_nonneg g2.1, Int.tmod_eq_emod_of_nonneg g3.1]
  generalize n0 % 7 = A at *
  generalize n1 % 32 = B at *
  generalize n2 % 513 = C at *
  generalize n3 % 2 = D at *
  rw [wrap64 (x := A) (by omega) (by omega), wrap64 (x := 2 + A) (by omega) (by omega), wrap64 (x := 32 - (2 + A)) (by omega) (by omega), wrap64 (x := 32 - (2 + A) - 1) (by omega) (by omega),
    wrap64 (x := B) (by omega) (by omega), wrap64 (x := 1 + B) (by omega) (by omega), wrap64 (x := 16 + (1 + B)) (by omega) (by omega), wrap64 (x := C) (by omega) (by omega),
    wrap64 (x := 16 + (1 + B) + C) (by omega) (by omega), wrap64 (x := 8176 - (16 + (1 + B) + C)) (by omega) (by omega), wrap64 (x := 8176 - (16 + (1 + B) + C) + 1) (by omega) (by omega),
    wrap64 (x := 16 + (1 + B) + C + 16) (by omega) (by omega), wrap64 (x := 2 * (16 + (1 + B) + C + 16)) (by omega) (by omega), wrap64 (x := 65536 - 2 * (16 + (1 + B) + C + 16)) (by omega) (by omega),
    wrap64 (x := 65536 - 2 * (16 + (1 + B) + C + 16) + 1) (by omega) (by omega), wrap64 (x := D) (by omega) (by omega), wrap64 (x := 1 + D) (by omega) (by omega),
    wrap64 (x := n4) (by omega) (by omega), wrap64 (x := n5) (by omega) (by omega), wrap64 (x := n6) (by omega) (by omega),
    Int.tmod_eq_emod_of_nonneg g4.1, Int.tmod_eq_emod_of_nonneg g5.1, Int.tmod_eq_emod_of_nonneg g6.1]
  have h4 := emod_in (n := n4) (m := 32 - (2 + A) - 1) (by omega)
  have h5 := emod_in (n := n5) (m := 8176 - (16 + (1 + B) + C) + 1) (by omega)
  have h6 := emod_in (n := n6) (m := 65536 - 2 * (16 + (1 + B) + C + 16) + 1) (by omega)
  refine bif_decide (fun _ => ?_) (fun h => by omega)
  refine bif_decide (fun _ => ?_) (fun h => by omega)
  refine bif_decide (fun _ => ?_) (fun h => by omega)
  show _ = cfgV _ _ _ _ _ _ _
  generalize n4 % (32 - (2 + A) - 1) = E4 at *
  generalize n5 % (8176 - (16 + (1 + B) + C) + 1) = E5 at *
  generalize n6 % (65536 - 2 * (16 + (1 + B) + C + 16) + 1) = E6 at *
  rw [wrap64 (x := 2 + A + 2) (by omega) (by omega), wrap64 (x := 2 + A + 2 + E4) (by omega) (by omega), wrap64 (x := 16 + (16 + (1 + B) + C)) (by omega) (by omega), wrap64 (x := 16 + (16 + (1 + B) + C) + E5) (by omega) (by omega),
    wrap64 (x := 2 * (16 + (1 + B) + C + 16) + E6) (by omega) (by omega)]
  rfl
noncomputable abbrev fMd : IFun := fMade mSf mZf mRf mWf mKf mVf mPf
open Classical in
theorem iok_made : IOk Tryz.prog tabLaid 13 fMd := by
  have h := iok_pure (P := Tryz.prog) (laid := tabLaid) (fs := []) (AllOk.nil _ _) (by kernel_rfl) (f := 13) (n := 70) (N := 20) (by kernel_rfl) rfl
    (F := fun args => match args with
      | [.agg ⟨[.int .u32 n0, .int .u32 n1, .int .u32 n2, .int .u32 n3, .int .u32 n4, .int .u32 n5, .int .u32 n6]⟩] =>
        if (u32In n0 ∧ u32In n1 ∧ u32In n2 ∧ u32In n3 ∧ u32In n4 ∧ u32In n5 ∧ u32In n6) then
          some (cfgV (mSf n0 n1 n2 n3 n4 n5 n6) (mZf n0 n1 n2 n3 n4 n5 n6) (mRf n0 n1 n2 n3 n4 n5 n6) (mWf n0 n1 n2 n3 n4 n5 n6) (mKf n0 n1 n2 n3 n4 n5 n6) (mVf n0 n1 n2 n3 n4 n5 n6) (mPf n0 n1 n2 n3 n4 n5 n6))
        else none
      | _ => none) (fun args v q => by
    split at q
    · rename_i n0 n1 n2 n3 n4 n5 n6
      split at q
      · rename_i hc
        cases q
        obtain ⟨g0, g1, g2, g3, g4, g5, g6⟩ := hc
        exact ⟨rfl, by simp, rfl, made_ends n0 n1 n2 n3 n4 n5 n6 g0 g1 g2 g3 g4 g5 g6⟩
      · cases q
    · cases q)
  refine ⟨h.1, ?_⟩
  intro base W0 μ H W args args' v H' a1 a2 a3 a4 hF
  refine h.2 base W0 μ H W args args' v H' a1 a2 a3 a4 ?_
  unfold fMd fMade at hF
  split at hF
  · split at hF
    · rename_i hc
      cases hF
      simp only [if_pos hc]
    · cases hF
  · cases hF
theorem pfM_ok {X : Ctx} (h1 : X.intr 13 = some fMd) : PfOk X (pfM mSf mZf mRf mWf mKf mVf mPf) := by
  intro f F hf args H K hF
  unfold pfM at hf
  cases hb : Nat.beq f 13
  · rw [hb] at hf; cases hf
  · rw [hb] at hf
    cases hf
    have := Nat.eq_of_beq_eq_true hb
    subst this
    unfold pMade at hF
    split at hF
    · obtain ⟨e, hk⟩ := hF
      refine ⟨_, _, ?_, hk⟩
      unfold intrAt
      simp only [h1, fMd, fMade, if_pos e]
    · cases hF
def slcA : G7 := fun s z r w k v p => if cfgOk s z r w k v p then slc z w else 0
theorem slc_ends (s z r w k v p : Int) : EndsIn (XC cfgErr) 16 (fun v' _ => v' = t2 (slcA s z r w k v p) (cfgErr s z r w k v p)) (st 16 9 [cfgV s z r w k v p] (heap0 tabLaid 20)) := by
  by_cases h : cfgOk s z r w k v p
  · refine VCp_ok (pfXC 0) (ids := []) (Q := fun v' _ => v' = t2 (slcA s z r w k v p) (cfgErr s z r w k v p)) 3000 _ ?_
    rw [vc_slc0]
    have e : cfgErr s z r w k v p = 0 := if_pos h
    have e2 : slcA s z r w k v p = slc z w := if_pos h
    refine ⟨e, ?_⟩
    unfold cfgOk at h
    refine bif_decide (fun hw => ?_) (fun hw => by omega)
    show _ = t2 _ _
    have hb := slc_bnd (z := z) (w := w) (by omega) (by omega) (by omega) (by omega)
    rw [e, e2, wrap64 (x := 2 * z) (by omega) (by omega), wrap64 (x := 2 * z + w) (by omega) (by omega), wrap64 (x := 2 * z + w - 1) (by omega) (by omega),
      Int.tdiv_eq_ediv_of_nonneg (by omega), wrap64 (x := (2 * z + w - 1) / w) (by omega) (by omega), wrap64 (x := (2 * z + w - 1) / w + 4) (by omega) (by omega)]
    rfl
  · refine VCp_ok (pfXC 2) (ids := []) (Q := fun v' _ => v' = t2 (slcA s z r w k v p) (cfgErr s z r w k v p)) 3000 _ ?_
    rw [vc_slc2]
    refine ⟨if_neg h, ?_⟩
    show _ = t2 _ _
    unfold slcA cfgErr
    rw [if_neg h, if_neg h]
    rfl
theorem slc_mono {z z' w w' : Int} (hz : 0 ≤ z) (h1 : z ≤ z') (hw : 0 < w') (h2 : w' ≤ w) : slc z w ≤ slc z' w' := by
  unfold slc
  have hq0 : 0 ≤ (2 * z' + w' - 1) / w' := Int.ediv_nonneg (by omega) (by omega)
  generalize hq : (2 * z' + w' - 1) / w' = q at *
  have e1 := Int.mul_ediv_add_emod (2 * z' + w' - 1) w'
  have e2 := Int.emod_lt_of_pos (2 * z' + w' - 1) hw
  rw [hq] at e1
  have e3 : 2 * z' ≤ w' * q := by omega
  have e4 : w' * q ≤ w * q := Int.mul_le_mul_of_nonneg_right h2 hq0
  have : (2 * z + w - 1) / w < q + 1 := by
    refine Int.ediv_lt_of_lt_mul (by omega) ?_
    rw [Int.add_mul, Int.mul_comm q w]
    omega
  omega
noncomputable abbrev XGr : Ctx := XG mSf mZf mRf mWf mKf mVf mPf entA cfgErr vicA cfgErr slcA
theorem allG (hw : KnownOk Tryz.prog tabLaid wrkK) : AllOk Tryz.prog tabLaid [(12, knownF wrkK), (13, fMd), (6, f7 fun s z r w k v p => t2 (entA s z r w k v p) (cfgErr s z r w k v p)),
  (8, f7 fun s z r w k v p => t2 (vicA s z r w k v p) (cfgErr s z r w k v p)), (16, f7 fun s z r w k v p => t2 (slcA s z r w k v p) (cfgErr s z r w k v p))] :=
  AllOk.cons (iok_known hw) (AllOk.cons iok_made (AllOk.cons (iok_7 (n := 9) (by kernel_rfl) (by decide) (fun _ _ _ _ _ _ _ => rfl) ent_ends)
    (AllOk.cons (iok_7 (n := 9) (by kernel_rfl) (by decide) (fun _ _ _ _ _ _ _ => rfl) vic_ends) (AllOk.cons (iok_7 (n := 9) (by kernel_rfl) (by decide) (fun _ _ _ _ _ _ _ => rfl) slc_ends) (AllOk.nil _ _)))))
theorem grows_ends (n0 n1 n2 n3 n4 n5 n6 more size work : Int) (g0 : u32In n0) (g1 : u32In n1) (g2 : u32In n2) (g3 : u32In n3) (g4 : u32In n4) (g5 : u32In n5) (g6 : u32In n6)
    (m1 : 0 ≤ more ∧ more < 65536) (m2 : 0 ≤ size ∧ size < 65536) (m3 : 0 ≤ work ∧ work < 65536) :
    EndsIn XGr 5 (fun v' _ => v' = .bool true) (st 5 124 [nV n0 n1 n2 n3 n4 n5 n6, .int .u16 more, .int .u16 size, .int .u16 work] (heap0 tabLaid 20)) := by
  refine VCp_ok (pfM_ok rfl) (ids := []) (Q := fun v' _ => v' = .bool true) 3000 _ ?_
  rw [vc_grows]
  refine ⟨⟨g0, g1, g2, g3, g4, g5, g6⟩, ?_⟩
  have hk := made_ok n0 n1 n2 n3 n4 n5 n6
  generalize mSf n0 n1 n2 n3 n4 n5 n6 = s at *
  generalize mZf n0 n1 n2 n3 n4 n5 n6 = z at *
  generalize mRf n0 n1 n2 n3 n4 n5 n6 = r at *
  generalize mWf n0 n1 n2 n3 n4 n5 n6 = w at *
  generalize mKf n0 n1 n2 n3 n4 n5 n6 = k at *
  generalize mVf n0 n1 n2 n3 n4 n5 n6 = v at *
  generalize mPf n0 n1 n2 n3 n4 n5 n6 = p at *
  have hk2 := hk
  unfold cfgOk at hk2
  have hm := emod_in (n := more) (m := 32) (by omega)
  rw [Int.tmod_eq_emod_of_nonneg m1.1]
  generalize more % 32 = M at *
  rw [wrap64 (x := M) (by omega) (by omega), wrap64 (x := s + M) (by omega) (by omega), wrap64 (x := size) (by omega) (by omega), wrap64 (x := z + size) (by omega) (by omega),
    wrap64 (x := 16 + k) (by omega) (by omega), wrap64 (x := 16 + k + v) (by omega) (by omega), wrap64 (x := 16 + k + v + 16) (by omega) (by omega), wrap64 (x := 2 * (16 + k + v + 16)) (by omega) (by omega),
    wrap64 (x := work) (by omega) (by omega), wrap64 (x := w - work) (by omega) (by omega), wrap64 (x := 3 * s) (by omega) (by omega)]
  generalize hS : (if 32 < s + M then (32 : Int) else s + M) = S
  generalize hZ : (if 8192 < z + size then (8192 : Int) else z + size) = Z
  have hS1 : s ≤ S ∧ S ≤ 32 := by split at hS <;> omega
  have hZ1 : z ≤ Z ∧ Z ≤ 8192 := by split at hZ <;> omega
  generalize hW : (if 2 * (16 + k + v + 16) > w - work then 2 * (16 + k + v + 16) else w - work) = W
  have hW1 : 2 * (32 + k + v) ≤ W ∧ W ≤ w := by split at hW <;> omega
  have hk3 : cfgOk S Z r W k v p := by unfold cfgOk; omega
  have e1 : cfgErr s z r w k v p = 0 := if_pos hk
  have e2 : cfgErr S Z r W k v p = 0 := if_pos hk3
  have a1 : entA s z r w k v p = 3 * s * slc z w := if_pos hk
  have a2 : entA S Z r W k v p = 3 * S * slc Z W := if_pos hk3
  have c1 : vicA s z r w k v p = 3 * s := if_pos hk
  have c2 : vicA S Z r W k v p = 3 * S := if_pos hk3
  have d1 : slcA s z r w k v p = slc z w := if_pos hk
  have hmo := slc_mono (z := z) (z' := Z) (w := w) (w' := W) (by omega) hZ1.1 (by omega) hW1.2
  have hb := slc_bnd (z := z) (w := w) (by omega) (by omega) (by omega) (by omega)
  have hsl : 0 ≤ slc z w ∧ slc z w ≤ 90004 := by unfold slc; omega
  rw [e1, e2, a1, a2, c1, c2, d1]
  have hm2 := mul_bnd (a := 3 * s) (b := slc z w) (A := 96) (B := 90004) (by omega) (by omega) hsl.1 hsl.2
  have hm3 : 3 * s * slc z w ≤ 3 * S * slc Z W := Int.mul_le_mul (by omega) hmo hsl.1 (by omega)
  rw [wrap64 (x := 3 * s * slc z w) (by omega) (by omega)]
  refine bif_true rfl (bif_true rfl (bif_true rfl (bif_true rfl (bif_true rfl (bif_true (decide_eq_true hm3) (bif_true (decide_eq_true (by omega)) (bif_true (beqI _) (bif_true (beqI _) ?_))))))))
  rfl
end Go.Ideal
