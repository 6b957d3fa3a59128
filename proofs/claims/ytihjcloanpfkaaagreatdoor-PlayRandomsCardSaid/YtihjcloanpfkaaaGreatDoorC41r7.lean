/-
  Part of the proof: the machine that runs a program by fixed orders, and that each of its runs is a run of the model; or a run of it in parts. No conditions.
-/
import Derived.Test.YtihjcloanpfkaaaGreatDoorC41r6
set_option maxRecDepth 1000000
namespace Go.Ideal
open Go.Proofs
section
variable {z v x : Int} {cr : Bool}
theorem opS_put (h : dr x 20 < 9) : opS z v cr x = ((1, 0, 0, ltr 97 (dr (nx x) 8), repS (ltr 65 (dr (nx (nx (nx x))) 26)) (dr (nx (nx x)) (v + 1))), nx (nx (nx (nx x)))) := by
  unfold opS; simp only [if_pos h]
theorem opS_del (h1 : ¬ dr x 20 < 9) (h : dr x 20 < 12) : opS z v cr x = ((3, 0, 0, ltr 97 (dr (nx x) 8), ByteArray.empty), nx (nx x)) := by
  unfold opS; simp only [if_neg h1, if_pos h]
theorem opS_get (h1 : ¬ dr x 20 < 12) (h : dr x 20 < 15) : opS z v cr x = ((2, 0, 0, ltr 97 (dr (nx x) 8), ByteArray.empty), nx (nx x)) := by
  have h0 : ¬ dr x 20 < 9 := by omega
  unfold opS; simp only [if_neg h0, if_neg h1, if_pos h]
theorem opS_sync (h : dr x 20 = 15) : opS z v cr x = ((4, 0, 0, ByteArray.empty, ByteArray.empty), nx x) := by
  unfold opS; simp only [h]; rfl
theorem opS_step (h : dr x 20 = 16) : opS z v cr x = ((5, 0, 0, ByteArray.empty, ByteArray.empty), nx x) := by
  unfold opS; simp only [h]; rfl
theorem opS_reop (h : dr x 20 = 17) : opS z v cr x = ((if cr then 8 else 5, 0, 0, ByteArray.empty, ByteArray.empty), nx x) := by
  unfold opS; simp only [h]; rfl
theorem opS_pol (h : dr x 20 = 18) : opS z v cr x = ((6, 1 + dr (nx x) 2, 0, ByteArray.empty, ByteArray.empty), nx (nx x)) := by
  unfold opS; simp only [h]; rfl
theorem opS_crT (h : dr x 20 = 19) : opS z v true x = crS z (nx x) := by
  unfold opS; simp only [h]; rfl
theorem opS_crF (h : dr x 20 = 19) : opS z v false x = ((5, 0, 0, ByteArray.empty, ByteArray.empty), nx x) := by
  unfold opS; simp only [h]; rfl
end
theorem wrapU8 {x : Int} (h0 : 0 ≤ x) (h1 : x < 256) : IntKind.wrap .u8 x = x := by
  show (if (false && decide (x % 256 ≥ 128)) = true then x % 256 - 256 else x % 256) = x
  simp only [Bool.false_and, Bool.false_eq_true, if_false]
  omega
/-- What the drawing of an operation leaves. -/
def OpQ (s z r w k v p : Int) (cr : Bool) (x : Int) (v' : Value) (os : List (Option IObj)) : Prop :=
  v' = .agg ⟨EK.enc kOp (opS z v cr x).1⟩ ∧ os = [some (dice (opS z v cr x).2 s z r w k v p)]
theorem OpQ.of {s z r w k v p x : Int} {cr : Bool} {e : EK.C kOp × Int} (h : opS z v cr x = e) {v' : Value} {os : List (Option IObj)} (h1 : v' = .agg ⟨EK.enc kOp e.1⟩) (h2 : os = [some (dice e.2 s z r w k v p)]) : OpQ s z r w k v p cr x v' os := by
  unfold OpQ; rw [h]; exact ⟨h1, h2⟩
theorem crS_kind (z x : Int) : (crS z x).1.1 = 7 ∧ (crS z x).1.2.2.2.1 = ByteArray.empty := by
  unfold crS
  split
  · exact ⟨rfl, rfl⟩
  · split <;> exact ⟨rfl, rfl⟩
theorem crS_eta (z x : Int) : (crS z x).1 = (7, (crS z x).1.2.1, (crS z x).1.2.2.1, ByteArray.empty, (crS z x).1.2.2.2.2) := by
  obtain ⟨h1, h2⟩ := crS_kind z x
  rw [← h1, ← h2]
theorem pfO_ok : PfOk XO pfO := by
  intro f F hf args H K hF
  unfold pfO at hf
  cases h1 : Nat.beq f 49
  rotate_left
  · rw [h1] at hf; cases hf
    have := Nat.eq_of_beq_eq_true h1; subst this
    exact footPf_ok (X := XO) rfl hF
  rw [h1] at hf
  have hf : pfB f = some F := hf
  unfold pfB at hf
  cases h1 : Nat.beq f 50
  rotate_left
  · rw [h1] at hf; cases hf
    have := Nat.eq_of_beq_eq_true h1; subst this
    exact footPf_ok (X := XO) rfl hF
  rw [h1] at hf
  cases h2 : Nat.beq f 32
  rotate_left
  · rw [h2] at hf; cases hf
    have := Nat.eq_of_beq_eq_true h2; subst this
    exact pItoa_ok (X := XO) rfl hF
  rw [h2] at hf
  cases h3 : Nat.beq f 76
  rotate_left
  · rw [h3] at hf; cases hf
    have := Nat.eq_of_beq_eq_true h3; subst this
    exact pJoin_ok (X := XO) rfl hF
  rw [h3] at hf
  cases h4 : Nat.beq f 74
  · rw [h4] at hf; cases hf
  rw [h4] at hf; cases hf
  have := Nat.eq_of_beq_eq_true h4; subst this
  exact pRepeat_ok (X := XO) rfl hF
theorem op_endsT (x s z r w k v p : Int) (hz : 0 ≤ z) (hz2 : z ≤ 10000) (hv : 0 ≤ v) (hv2 : v ≤ 1000) : VCp XO pfO 26 [20] (OpQ s z r w k v p true x) 4000 (st 26 36 [pd, rs] ((hp0.alloc (dice x s z r w k v p)).alloc (recO true true))) := by
  obtain ⟨k0, k1⟩ := dr_in x 20 (by omega)
  obtain ⟨a0, a1⟩ := dr_in (nx x) 8 (by omega)
  obtain ⟨b0, b1⟩ := dr_in (nx (nx (nx x))) 26 (by omega)
  obtain ⟨c0, c1⟩ := dr_in (nx (nx x)) (v + 1) (by omega)
  obtain ⟨d0, d1⟩ := dr_in (nx x) 2 (by omega)
  have e8 : IntKind.wrap .u8 (97 + IntKind.wrap .u8 (dr (nx x) 8)) = 97 + dr (nx x) 8 := by rw [wrapU8 (x := dr (nx x) 8) (by omega) (by omega), wrapU8 (by omega) (by omega)]
  have e26 : IntKind.wrap .u8 (65 + IntKind.wrap .u8 (dr (nx (nx (nx x))) 26)) = 65 + dr (nx (nx (nx x))) 26 := by rw [wrapU8 (x := dr (nx (nx (nx x))) 26) (by omega) (by omega), wrapU8 (by omega) (by omega)]
  have ev : IntKind.wrap .i64 (v + 1) = v + 1 := wrap64 (by omega) (by omega)
  rw [vc_opt, wrap64 (x := dr x 20 - 9) (by omega) (by omega), wrap64 (x := dr x 20 - 9 - 3) (by omega) (by omega), wrap64 (x := dr x 20 - 9 - 3 - 3) (by omega) (by omega), wrap64 (x := dr x 20 - 9 - 3 - 3 - 1) (by omega) (by omega), wrap64 (x := dr x 20 - 9 - 3 - 3 - 1 - 1) (by omega) (by omega),
    wrap64 (x := dr x 20 - 9 - 3 - 3 - 1 - 1 - 1) (by omega) (by omega), wrap64 (x := dr x 20 - 9 - 3 - 3 - 1 - 1 - 1 - 1) (by omega) (by omega), wrap64 (x := dr x 20 - 9 - 3 - 3 - 1 - 1 - 1 - 1 - 1) (by omega) (by omega), wrap64 (x := 1 + dr (nx x) 2) (by omega) (by omega), e8, e26, ev]
  refine ⟨by omega, ?_⟩
  refine bif_decide (fun h1 => ?_) (fun h1 => ?_)
  rotate_left
  · refine ⟨by omega, by omega, by omega, ⟨c0, by omega, ?_⟩, OpQ.of (opS_put (by omega)) rfl rfl⟩
    show 1 * _ ≤ _
    omega
  refine bif_decide (fun h2 => ?_) (fun h2 => ?_)
  rotate_left
  · exact ⟨by omega, OpQ.of (opS_del (by omega) (by omega)) rfl rfl⟩
  refine bif_decide (fun h3 => ?_) (fun h3 => ?_)
  rotate_left
  · exact ⟨by omega, OpQ.of (opS_get (by omega) (by omega)) rfl rfl⟩
  refine bif_decide (fun h4 => ?_) (fun h4 => ?_)
  rotate_left
  · exact OpQ.of (opS_sync (by omega)) rfl rfl
  refine bif_decide (fun h5 => ?_) (fun h5 => ?_)
  rotate_left
  · exact OpQ.of (opS_step (by omega)) rfl rfl
  refine bif_decide (fun h6 => ?_) (fun h6 => ?_)
  rotate_left
  · exact OpQ.of (opS_reop (by omega)) rfl rfl
  refine bif_decide (fun h7 => ?_) (fun h7 => ?_)
  rotate_left
  · exact ⟨by omega, OpQ.of (opS_pol (by omega)) rfl rfl⟩
  refine bif_decide (fun h8 => ?_) (fun h8 => ?_)
  · exfalso; omega
  · exact ⟨⟨hz, hz2⟩, OpQ.of (opS_crT (by omega)) (by rw [crS_eta]; rfl) rfl⟩
theorem op_endsF (x s z r w k v p : Int) (_ : 0 ≤ z) (_ : z ≤ 10000) (hv : 0 ≤ v) (hv2 : v ≤ 1000) : VCp XO pfO 26 [20] (OpQ s z r w k v p false x) 4000 (st 26 36 [pd, rs] ((hp0.alloc (dice x s z r w k v p)).alloc (recO false true))) := by
  obtain ⟨k0, k1⟩ := dr_in x 20 (by omega)
  obtain ⟨a0, a1⟩ := dr_in (nx x) 8 (by omega)
  obtain ⟨b0, b1⟩ := dr_in (nx (nx (nx x))) 26 (by omega)
  obtain ⟨c0, c1⟩ := dr_in (nx (nx x)) (v + 1) (by omega)
  obtain ⟨d0, d1⟩ := dr_in (nx x) 2 (by omega)
  have e8 : IntKind.wrap .u8 (97 + IntKind.wrap .u8 (dr (nx x) 8)) = 97 + dr (nx x) 8 := by rw [wrapU8 (x := dr (nx x) 8) (by omega) (by omega), wrapU8 (by omega) (by omega)]
  have e26 : IntKind.wrap .u8 (65 + IntKind.wrap .u8 (dr (nx (nx (nx x))) 26)) = 65 + dr (nx (nx (nx x))) 26 := by rw [wrapU8 (x := dr (nx (nx (nx x))) 26) (by omega) (by omega), wrapU8 (by omega) (by omega)]
  have ev : IntKind.wrap .i64 (v + 1) = v + 1 := wrap64 (by omega) (by omega)
  rw [vc_opf, wrap64 (x := dr x 20 - 9) (by omega) (by omega), wrap64 (x := dr x 20 - 9 - 3) (by omega) (by omega), wrap64 (x := dr x 20 - 9 - 3 - 3) (by omega) (by omega), wrap64 (x := dr x 20 - 9 - 3 - 3 - 1) (by omega) (by omega), wrap64 (x := dr x 20 - 9 - 3 - 3 - 1 - 1) (by omega) (by omega),
    wrap64 (x := dr x 20 - 9 - 3 - 3 - 1 - 1 - 1) (by omega) (by omega), wrap64 (x := dr x 20 - 9 - 3 - 3 - 1 - 1 - 1 - 1) (by omega) (by omega), wrap64 (x := dr x 20 - 9 - 3 - 3 - 1 - 1 - 1 - 1 - 1) (by omega) (by omega), wrap64 (x := 1 + dr (nx x) 2) (by omega) (by omega), e8, e26, ev]
  refine ⟨by omega, ?_⟩
  refine bif_decide (fun h1 => ?_) (fun h1 => ?_)
  rotate_left
  · refine ⟨by omega, by omega, by omega, ⟨c0, by omega, ?_⟩, OpQ.of (opS_put (by omega)) rfl rfl⟩
    show 1 * _ ≤ _
    omega
  refine bif_decide (fun h2 => ?_) (fun h2 => ?_)
  rotate_left
  · exact ⟨by omega, OpQ.of (opS_del (by omega) (by omega)) rfl rfl⟩
  refine bif_decide (fun h3 => ?_) (fun h3 => ?_)
  rotate_left
  · exact ⟨by omega, OpQ.of (opS_get (by omega) (by omega)) rfl rfl⟩
  refine bif_decide (fun h4 => ?_) (fun h4 => ?_)
  rotate_left
  · exact OpQ.of (opS_sync (by omega)) rfl rfl
  refine bif_decide (fun h5 => ?_) (fun h5 => ?_)
  rotate_left
  · exact OpQ.of (opS_step (by omega)) rfl rfl
  refine bif_decide (fun h6 => ?_) (fun h6 => ?_)
  rotate_left
  · exact OpQ.of (opS_reop (by omega)) rfl rfl
  refine bif_decide (fun h7 => ?_) (fun h7 => ?_)
  rotate_left
  · exact ⟨by omega, OpQ.of (opS_pol (by omega)) rfl rfl⟩
  refine bif_decide (fun h8 => ?_) (fun h8 => ?_)
  · exfalso; omega
  · exact OpQ.of (opS_crF (by omega)) rfl rfl
open Classical in
noncomputable def opG (cr : Bool) (args : List Value) (objs : List IObj) : GT := match args, objs with
  | [.pointer (some ⟨20, 0, none⟩), .slice (some ⟨21, 0, none⟩) 8 8], [.cells [.int .u32 x, .int .i64 s, .int .i64 z, .int .i64 r, .int .i64 w, .int .i64 k, .int .i64 v, .int .i64 p] 0 false, .cells l e _] =>
    .ask ((0 ≤ z ∧ z ≤ 10000 ∧ 0 ≤ v ∧ v ≤ 1000) ∧ l = recL cr ∧ e = 3) (.ret ⟨.agg ⟨EK.enc kOp (opS z v cr x).1⟩, [some (dice (opS z v cr x).2 s z r w k v p)], []⟩)
  | _, _ => .fail
theorem allO (hA : AllOk Tryz.prog tabLaid bFs) : AllOk Tryz.prog tabLaid oFs := AllOk.cons (iok_fc hA) hA
theorem iok_op (hA : AllOk Tryz.prog tabLaid bFs) (cr : Bool) : IOk Tryz.prog tabLaid 26 (footF tabLaid 20 [true, false] (opG cr)) := by
  refine iok_foot (fs := oFs) (allO hA) (by kernel_rfl) (n := 36) (by kernel_rfl) (by kernel_rfl) fun argsc objs x hx hro => ?_
  unfold opG at hx
  split at hx
  · rename_i x0 s z r w k v p l e ro
    simp only [GT.run] at hx
    split at hx
    · rename_i hc
      obtain ⟨⟨hz, hz2, hv, hv2⟩, rfl, rfl⟩ := hc
      cases hx
      refine ⟨by simp, EndsN.mono (Q := fun v' Hf => OpQ s z r w k v p cr x0 v' ([20].map Hf.get)) ?_ fun v' Hf h => ?_⟩
      · refine (VCp_ok pfO_ok (ids := [20]) (Q := OpQ s z r w k v p cr x0) 4000 _ ?_).toN.mono fun v' Hf h => ?_
        · cases cr
          · exact op_endsF x0 s z r w k v p hz hz2 hv hv2
          · exact op_endsT x0 s z r w k v p hz hz2 hv hv2
        · have h1 := h.1
          rw [h1] at h ⊢
          exact h
      · obtain ⟨rfl, h2⟩ := h
        refine tm_olds (by rfl) fun j o hj hm ho => ?_
        have hj : j < 2 := by simpa using hj
        rcases (show j = 0 ∨ j = 1 by omega) with rfl | rfl
        · cases ho; exact ⟨_, rfl, (List.cons.inj h2).1⟩
        · cases hm
    · cases hx
  · cases hx
end Go.Ideal
