/-
  Part of the proof: the machine that runs a program by fixed orders, and that each of its runs is a run of the model; or a run of it in parts. No conditions.
-/
import Derived.Test.YtihjcloanpfkaaaGreatDoorC41r4
set_option maxRecDepth 1000000
namespace Go.Ideal
open Go.Proofs
theorem pfB_ok : PfOk XB pfB := by
  intro f F hf args H K hF
  unfold pfB at hf
  cases h1 : Nat.beq f 50
  rotate_left
  · rw [h1] at hf; cases hf
    have := Nat.eq_of_beq_eq_true h1; subst this
    exact footPf_ok (X := XB) rfl hF
  rw [h1] at hf
  cases h2 : Nat.beq f 32
  rotate_left
  · rw [h2] at hf; cases hf
    have := Nat.eq_of_beq_eq_true h2; subst this
    exact pItoa_ok (X := XB) rfl hF
  rw [h2] at hf
  cases h3 : Nat.beq f 76
  rotate_left
  · rw [h3] at hf; cases hf
    have := Nat.eq_of_beq_eq_true h3; subst this
    exact pJoin_ok (X := XB) rfl hF
  rw [h3] at hf
  cases h4 : Nat.beq f 74
  · rw [h4] at hf; cases hf
  rw [h4] at hf; cases hf
  have := Nat.eq_of_beq_eq_true h4; subst this
  exact pRepeat_ok (X := XB) rfl hF
/-- The size of what is joined. -/
theorem dec_le {n : Int} (h : n ≤ 100000) : (decB n).size ≤ 7 := decB_size 6 n (by omega)
/-- What fillCrash leaves. -/
def FcQ (s z r w k v p kd : Int) (key : ByteArray) (x : Int) (v' : Value) (os : List (Option IObj)) : Prop :=
  v' = .tuple ⟨[]⟩ ∧ os = [some (dice (crS z x).2 s z r w k v p), some (opO kd (crS z x).1.2.1 (crS z x).1.2.2.1 key (crS z x).1.2.2.2.2)]
theorem fc_ends (x s z r w k v p kd a b : Int) (key val : ByteArray) (hz : 0 ≤ z) (hz2 : z ≤ 10000) :
    EndsN XB 22 49 (fun v' Hf => FcQ s z r w k v p kd key x v' ([20, 21].map Hf.get)) (st 49 38 [pd, po] ((hp0.alloc (dice x s z r w k v p)).alloc (opO kd a b key val))) := by
  obtain ⟨h3, h4⟩ := dr_in (nx (nx x)) 3 (by omega)
  have hw : IntKind.wrap .i64 (z + 1) = z + 1 := wrap64 (by omega) (by omega)
  have d1 := dr_in (nx (nx (nx x))) (z + 1) (by omega)
  have d2 := dr_in (nx (nx (nx (nx x)))) (z + 1) (by omega)
  have d3 := dr_in (nx (nx (nx (nx (nx x))))) (z + 1) (by omega)
  have sz1 := dec_le (n := dr (nx (nx (nx x))) (z + 1)) (by omega)
  have sz2 := dec_le (n := dr (nx (nx (nx (nx x)))) (z + 1)) (by omega)
  have sz3 := dec_le (n := dr (nx (nx (nx (nx (nx x))))) (z + 1)) (by omega)
  have hc : ByteArray.size { data := #[44] } = 1 := rfl
  refine VCs_ok pfB_ok (ids := [20, 21]) (S := fcS) rfl (Q := fun _ _ => False) (R := fun c => c = fcT (nx (nx (nx x))) s z r w k v p kd (dr x 12) (dr (nx x) 2) key val (1 + dr (nx (nx x)) 3)) (fun v H h => h.elim) (fun c hcc => ?_) 2000 _ ?_
  · rw [hcc]
    have hcases : dr (nx (nx x)) 3 = 0 ∨ dr (nx (nx x)) 3 = 1 ∨ dr (nx (nx x)) 3 = 2 := by omega
    refine EndsN.mono (Q := fun v' Hf => FcQ s z r w k v p kd key x v' (([20, 21] ++ refsN 4 v').map Hf.get)) ?_ fun v' Hf h => ?_
    · rcases hcases with h0 | h0 | h0
      · rw [h0]
        refine (VCp_ok pfB_ok (ids := [20, 21]) (Q := FcQ s z r w k v p kd key x) 2000 _ ?_).toN
        show VCp XB pfB 49 [20, 21] _ 2000 (fcT _ s z r w k v p kd _ _ key val 1)
        rw [vc_fc1, hw]
        refine ⟨by omega, ⟨d1.1, by omega⟩, ?_, rfl, ?_⟩
        · rw [joinB_one]; omega
        · unfold crS; simp only [h0, if_true]; rfl
      · rw [h0]
        refine (VCp_ok pfB_ok (ids := [20, 21]) (Q := FcQ s z r w k v p kd key x) 2000 _ ?_).toN
        show VCp XB pfB 49 [20, 21] _ 2000 (fcT _ s z r w k v p kd _ _ key val 2)
        rw [vc_fc2, hw]
        refine ⟨by omega, ⟨d1.1, by omega⟩, by omega, ⟨d2.1, by omega⟩, ?_, rfl, ?_⟩
        · rw [joinB_two, ByteArray.size_append, ByteArray.size_append, hc]; omega
        · unfold crS; simp only [h0, if_true, if_false, show ¬ (1 : Int) = 0 by omega]; rfl
      · rw [h0]
        refine (VCp_ok pfB_ok (ids := [20, 21]) (Q := FcQ s z r w k v p kd key x) 2000 _ ?_).toN
        show VCp XB pfB 49 [20, 21] _ 2000 (fcT _ s z r w k v p kd _ _ key val 3)
        rw [vc_fc3, hw]
        refine ⟨by omega, ⟨d1.1, by omega⟩, by omega, ⟨d2.1, by omega⟩, by omega, ⟨d3.1, by omega⟩, ?_, rfl, ?_⟩
        · rw [joinB_three, ByteArray.size_append, ByteArray.size_append, ByteArray.size_append, ByteArray.size_append, hc]; omega
        · unfold crS; simp only [h0, if_false, show ¬ (2 : Int) = 0 by omega, show ¬ (2 : Int) = 1 by omega]; rfl
    · have h1 := h.1
      rw [h1] at h ⊢
      exact h
  · rw [vc_fc0, wrap64 (x := 1 + dr (nx (nx x)) 3) (by omega) (by omega)]
    exact ⟨by omega, by omega, by omega, rfl⟩
open Classical in
noncomputable def fcG (args : List Value) (objs : List IObj) : GT := match args, objs with
  | [.pointer (some ⟨20, 0, none⟩), .pointer (some ⟨21, 0, none⟩)], [.cells [.int .u32 x, .int .i64 s, .int .i64 z, .int .i64 r, .int .i64 w, .int .i64 k, .int .i64 v, .int .i64 p] 0 false, .cells [.int .i64 kd, .int .i64 _, .int .i64 _, .string key, .string _] 0 false] =>
    .ask (0 ≤ z ∧ z ≤ 10000) (.ret ⟨.tuple ⟨[]⟩, [some (dice (crS z x).2 s z r w k v p), some (opO kd (crS z x).1.2.1 (crS z x).1.2.2.1 key (crS z x).1.2.2.2.2)], []⟩)
  | _, _ => .fail
theorem allB (h32 : IOk Tryz.prog tabLaid 32 itoaI) (h76 : IOk Tryz.prog tabLaid 76 joinI) (h74 : IOk Tryz.prog tabLaid 74 repeatI) : AllOk Tryz.prog tabLaid bFs :=
  AllOk.cons iok_blw (AllOk.cons h32 (AllOk.cons h76 (AllOk.cons h74 (AllOk.nil _ _))))
theorem iok_fc (hA : AllOk Tryz.prog tabLaid bFs) : IOk Tryz.prog tabLaid 49 (footF tabLaid 20 [true, true] fcG) := by
  refine iok_foot (fs := bFs) hA (by kernel_rfl) (n := 38) (by kernel_rfl) (by kernel_rfl) fun argsc objs x hx hro => ?_
  unfold fcG at hx
  split at hx
  · rename_i x0 s z r w k v p kd a b key val
    simp only [GT.run] at hx
    split at hx
    · rename_i hz
      cases hx
      refine ⟨by simp, EndsN.mono (fc_ends x0 s z r w k v p kd a b key val hz.1 hz.2) fun v' Hf h => ?_⟩
      obtain ⟨rfl, h2⟩ := h
      have h3 := List.cons.inj h2
      have h4 := List.cons.inj h3.2
      refine tm_olds (by rfl) fun j o hj _ ho => ?_
      have hj : j < 2 := by simpa using hj
      rcases (show j = 0 ∨ j = 1 by omega) with rfl | rfl
      · cases ho; exact ⟨_, rfl, h3.1⟩
      · cases ho; exact ⟨_, rfl, h4.1⟩
    · cases hx
  · cases hx
end Go.Ideal
