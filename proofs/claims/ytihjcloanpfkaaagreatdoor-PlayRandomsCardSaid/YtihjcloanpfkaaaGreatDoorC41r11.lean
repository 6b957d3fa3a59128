/-
  Part of the proof: the machine that runs a program by fixed orders, and that each of its runs is a run of the model; or a run of it in parts. No conditions.
-/
import Derived.Test.YtihjcloanpfkaaaGreatDoorC41r10
set_option maxRecDepth 1000000
namespace Go.Ideal
open Go.Proofs
theorem pfE_ok : PfOk XE pfE := by
  intro f F hf args H K hF
  unfold pfE at hf
  cases h0 : Nat.beq f 54
  rotate_left
  · rw [h0] at hf; cases hf
    have := Nat.eq_of_beq_eq_true h0; subst this
    exact footPf_ok (X := XE) rfl hF
  rw [h0] at hf
  have hf : pfD f = some F := hf
  unfold pfD at hf
  cases h1 : Nat.beq f 52
  rotate_left
  · rw [h1] at hf; cases hf
    have := Nat.eq_of_beq_eq_true h1; subst this
    exact footPf_ok (X := XE) rfl hF
  rw [h1] at hf
  cases h2 : Nat.beq f 36
  · rw [h2] at hf; cases hf
  rw [h2] at hf; cases hf
  have := Nat.eq_of_beq_eq_true h2; subst this
  unfold pDgB at hF
  split at hF
  · rename_i n
    refine ⟨_, _, ?_, hF.2⟩
    show fDgB 100000 [.int .u64 n] H = _
    unfold fDgB
    exact if_pos hF.1
  · cases hF
theorem abc_at : ∀ n : _root_.Fin 8, ByteArray.extract { data := #[97, 98, 99, 100, 101, 102, 103, 104] } n.val (n.val + 1) = ltr 97 n.val := by decide +kernel
theorem abc_ltr {n : Int} (h0 : 0 ≤ n) (h : n < 8) : ByteArray.extract { data := #[97, 98, 99, 100, 101, 102, 103, 104] } (Int.toNat n) (Int.toNat (n + 1)) = ltr 97 n := by
  have := abc_at ⟨n.toNat, by omega⟩
  have e1 : (n + 1).toNat = n.toNat + 1 := by omega
  have e2 : ((n.toNat : Nat) : Int) = n := by omega
  rw [e1]
  simpa [e2] using this
/-- What the reference's op leaves. -/
def RoQ (s z r w k v p : Int) (cr : Bool) (x : Int) (v' : Value) (os : List (Option IObj)) : Prop :=
  v' = .agg ⟨EK.enc kOp (opS z v cr x).1⟩ ∧ os = [some (draws (opS z v cr x).2 s z r w k v p cr)]
theorem RoQ.of {s z r w k v p x : Int} {cr : Bool} {e : EK.C kOp × Int} (h : opS z v cr x = e) {v' : Value} {os : List (Option IObj)} (h1 : v' = .agg ⟨EK.enc kOp e.1⟩) (h2 : os = [some (draws e.2 s z r w k v p cr)]) : RoQ s z r w k v p cr x v' os := by
  unfold RoQ; rw [h]; exact ⟨h1, h2⟩
theorem repS_zero (s : ByteArray) : repS s 0 = ByteArray.empty := rfl
theorem rep_comm (s : List UInt8) : ∀ n : Nat, s ++ Go.Lib.repeatL s n = Go.Lib.repeatL s n ++ s
  | 0 => by simp [Go.Lib.repeatL]
  | n + 1 => by
    show s ++ (s ++ Go.Lib.repeatL s n) = (s ++ Go.Lib.repeatL s n) ++ s
    rw [List.append_assoc, ← rep_comm s n]
theorem repS_succ (s : ByteArray) (i : Nat) : repS s ((i : Int) + 1) = repS s i ++ s := by
  unfold repS
  have e1 : ((i : Int) + 1).toNat = i + 1 := by omega
  have e2 : ((i : Int)).toNat = i := by omega
  rw [e1, e2]
  apply ByteArray.ext
  apply Array.ext'
  rw [ByteArray.data_append]
  simpa [Go.Lib.repeatL] using rep_comm s.data.toList i
theorem repS_size (f l : Int) (i : Nat) : (repS (ltr f l) i).size = i := by
  induction i with
  | zero => rfl
  | succ i ih =>
    have e : (((i + 1 : Nat)) : Int) = (i : Int) + 1 := by omega
    rw [e, repS_succ, ByteArray.size_append, ih, ltr_size]
theorem rp_loop (x s z r w k v p : Int) (cr : Bool) (hk : dr x 20 < 9) (n l : Int) (hn : n = dr (nx (nx x)) (v + 1)) (hn2 : n ≤ 1000) (hl : l = dr (nx (nx (nx x))) 26) : ∀ (m i : Nat), n.toNat - i = m → (i : Int) ≤ n →
    EndsN XE 21 28 (fun v' Hf => RoQ s z r w k v p cr x v' ([20].map Hf.get)) (rpT (nx (nx (nx (nx x)))) s z r w k v p cr (ltr 97 (dr (nx x) 8)) (repS (ltr 65 l) i) n l i) := by
  have hl2 := dr_in (nx (nx (nx x))) 26 (by omega)
  rw [← hl] at hl2
  have el : IntKind.wrap .u8 (IntKind.wrap .i64 (65 + l)) = 65 + l := by rw [wrap64 (by omega) (by omega), wrapU8 (by omega) (by omega)]
  intro m
  induction m with
  | zero =>
    intro i hm hi
    refine EndsN.mono (Q := fun v' Hf => RoQ s z r w k v p cr x v' (([20] ++ refsN 4 v').map Hf.get)) ?_ fun v' Hf h => ?_
    · refine VCs_ok pfE_ok (ids := [20]) (S := rpS) rfl (Q := RoQ s z r w k v p cr x) (R := fun _ => False) (fun v H h => h) (fun c h => h.elim) 3000 _ ?_
      rw [vc_rp1]
      refine bif_decide (fun h => ?_) (fun _ => ?_)
      · exfalso; omega
      · have e : (i : Int) = n := by omega
        refine RoQ.of (opS_put hk) ?_ rfl
        rw [e, hl, hn]; rfl
    · have h1 := h.1
      rw [h1] at h ⊢
      exact h
  | succ m ih =>
    intro i hm hi
    refine VCs_ok pfE_ok (ids := [20]) (S := rpS) rfl (Q := fun _ _ => False) (R := fun c => c = rpT (nx (nx (nx (nx x)))) s z r w k v p cr (ltr 97 (dr (nx x) 8)) (repS (ltr 65 l) (i + 1 : Nat)) n l (i + 1 : Nat)) (fun v H h => h.elim) (fun c h => by rw [h]; exact ih (i + 1) (by omega) (by omega)) 3000 _ ?_
    rw [vc_rp1, el, wrap64 (x := (i : Int) + 1) (by omega) (by omega)]
    refine bif_decide (fun h => ?_) (fun h => by exfalso; omega)
    refine bif_true (Nat.ble_eq_true_of_le ?_) ?_
    · rw [repS_size]
      show i + 1 ≤ _
      omega
    · have e : (((i + 1 : Nat)) : Int) = (i : Int) + 1 := by omega
      rw [e, repS_succ]
      rfl
theorem ro_ends (x s z r w k v p : Int) (cr : Bool) (hz : 0 ≤ z) (hz2 : z ≤ 10000) (hv : 0 ≤ v) (hv2 : v ≤ 1000) (hx : u32In x) :
    EndsN XE 21 28 (fun v' Hf => RoQ s z r w k v p cr x v' ([20].map Hf.get)) (st 28 86 [pd] (hp0.alloc (draws x s z r w k v p cr))) := by
  obtain ⟨k0, k1⟩ := dr_in x 20 (by omega)
  obtain ⟨a0, a1⟩ := dr_in (nx x) 8 (by omega)
  obtain ⟨c0, c1⟩ := dr_in (nx (nx x)) (v + 1) (by omega)
  obtain ⟨d0, d1⟩ := dr_in (nx x) 2 (by omega)
  have ev : IntKind.wrap .i64 (v + 1) = v + 1 := wrap64 (by omega) (by omega)
  have ea : IntKind.wrap .i64 (dr (nx x) 8 + 1) = dr (nx x) 8 + 1 := wrap64 (by omega) (by omega)
  have ed : IntKind.wrap .i64 (1 + dr (nx x) 2) = 1 + dr (nx x) 2 := wrap64 (by omega) (by omega)
  have i0 := nx_in
  have hsz : ByteArray.size { data := #[97, 98, 99, 100, 101, 102, 103, 104] } = 8 := rfl
  have hsl := slice_ok (n := dr (nx x) 8) (m := dr (nx x) 8 + 1) (k := 8) a0 (by omega) (by omega)
  refine EndsN.mono (Q := fun v' Hf => RoQ s z r w k v p cr x v' (([20] ++ refsN 4 v').map Hf.get)) ?_ fun v' Hf h => by
    have h1 := h.1
    rw [h1] at h ⊢
    exact h
  refine VCs_ok pfE_ok (ids := [20]) (S := rpS) rfl (Q := RoQ s z r w k v p cr x) (R := fun c => dr x 20 < 9 ∧ c = rpT (nx (nx (nx (nx x)))) s z r w k v p cr (ltr 97 (dr (nx x) 8)) ByteArray.empty (dr (nx (nx x)) (v + 1)) (dr (nx (nx (nx x))) 26) 0) (fun v H h => h) (fun c h => ?_) 3000 _ ?_
  · rw [h.2]
    refine EndsN.mono (rp_loop x s z r w k v p cr h.1 _ _ rfl (by omega) rfl (dr (nx (nx x)) (v + 1)).toNat 0 (by omega) (by omega)) fun v' Hf h => ?_
    have h1 := h.1
    rw [h1] at h ⊢
    exact h
  · rw [vc_rp0, ev, ea, ed, hsz, abc_ltr a0 a1]
    refine ⟨⟨by omega, hx⟩, bif_decide (fun h1 => ?_) (fun h1 => ?_)⟩
    · exact ⟨⟨by omega, i0 _⟩, bif_true hsl ⟨⟨by omega, i0 _⟩, ⟨by omega, i0 _⟩, by omega, rfl⟩⟩
    refine bif_decide (fun h2 => ?_) (fun h2 => ?_)
    · exact ⟨⟨by omega, i0 _⟩, bif_true hsl (RoQ.of (opS_del (by omega) (by omega)) rfl rfl)⟩
    refine bif_decide (fun h3 => ?_) (fun h3 => ?_)
    · exact ⟨⟨by omega, i0 _⟩, bif_true hsl (RoQ.of (opS_get (by omega) (by omega)) rfl rfl)⟩
    refine bif_both (fun h4 => ?_) (fun h4 => ?_)
    · exact RoQ.of (opS_sync (by simpa using h4)) rfl rfl
    have h4 : dr x 20 ≠ 15 := by simpa using h4
    have t18 : (dr x 20 == 18) = true → (dr x 20 == 17) = false := fun h => by
      have h : dr x 20 = 18 := by simpa using h
      rw [h]; rfl
    refine bif_both (fun h5 => ?_) (fun h5 => ?_)
    · have h5 : dr x 20 = 17 := by simpa using h5
      cases cr
      · refine bif_false rfl ?_
        refine bif_false (by rw [h5]; rfl) (bif_false (by rw [h5]; rfl) (RoQ.of (opS_reop h5) rfl rfl))
      · exact bif_true rfl (RoQ.of (opS_reop h5) rfl rfl)
    have h5 : dr x 20 ≠ 17 := by simpa using h5
    refine bif_both (fun h6 => ?_) (fun h6 => ?_)
    · exact ⟨⟨by omega, i0 _⟩, RoQ.of (opS_pol (by simpa using h6)) rfl rfl⟩
    have h6 : dr x 20 ≠ 18 := by simpa using h6
    refine bif_both (fun h7 => ?_) (fun h7 => ?_)
    · have h7 : dr x 20 = 19 := by simpa using h7
      cases cr
      · exact bif_false rfl (RoQ.of (opS_crF h7) rfl rfl)
      · exact bif_true rfl ⟨⟨hz, hz2, i0 _⟩, RoQ.of (opS_crT h7) rfl rfl⟩
    have h7 : dr x 20 ≠ 19 := by simpa using h7
    exact RoQ.of (opS_step (by omega)) rfl rfl
open Classical in
noncomputable def roG (args : List Value) (objs : List IObj) : GT := match args, objs with
  | [.pointer (some ⟨20, 0, none⟩)], [.cells [.int .u64 x, .int .i64 s, .int .i64 z, .int .i64 r, .int .i64 w, .int .i64 k, .int .i64 v, .int .i64 p, .bool cr] 0 false] =>
    .ask ((0 ≤ z ∧ z ≤ 10000 ∧ 0 ≤ v ∧ v ≤ 1000) ∧ u32In x) (.ret ⟨.agg ⟨EK.enc kOp (opS z v cr x).1⟩, [some (draws (opS z v cr x).2 s z r w k v p cr)], []⟩)
  | _, _ => .fail
theorem allE : AllOk Tryz.prog tabLaid eFs := AllOk.cons iok_rc allD
theorem iok_ro : IOk Tryz.prog tabLaid 28 (footF tabLaid 20 [true] roG) := by
  refine iok_foot (fs := eFs) allE (by kernel_rfl) (n := 86) (by kernel_rfl) (by kernel_rfl) fun argsc objs x hx hro => ?_
  unfold roG at hx
  split at hx
  · rename_i x0 s z r w k v p cr
    simp only [GT.run] at hx
    split at hx
    · rename_i hz
      cases hx
      refine ⟨by simp, EndsN.mono (ro_ends x0 s z r w k v p cr hz.1.1 hz.1.2.1 hz.1.2.2.1 hz.1.2.2.2 hz.2) fun v' Hf h => ?_⟩
      obtain ⟨rfl, h2⟩ := h
      refine tm_olds (by rfl) fun j o hj _ ho => ?_
      have hj : j = 0 := by simpa using hj
      subst hj
      cases ho; exact ⟨_, rfl, (List.cons.inj h2).1⟩
    · cases hx
  · cases hx
end Go.Ideal
