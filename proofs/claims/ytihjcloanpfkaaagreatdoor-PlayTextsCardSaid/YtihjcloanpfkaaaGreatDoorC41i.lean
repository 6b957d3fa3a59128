/-
  Part of the proof: the machine that runs a program by fixed orders, and that each of its runs is a run of the model; or a run of it in parts. No conditions.
-/
import Derived.Test.YtihjcloanpfkaaaGreatDoorC41h
import Derived.Test.YtihjcloanpfkaaaGreatDoorIdArg2
set_option maxRecDepth 1000000
namespace Go.Ideal
open Go.Proofs
noncomputable abbrev tFs : List (FuncId × IFun) := [(30, fTx vstr verr), (35, fTx vstr verr), (36, fDigU dgs), (32, fDigI dgs), (31, bldWriteI 75 5), (33, bldLenI 75 5), (34, bldStringI 75 5)]
noncomputable def ptE' (l : List (EK.C kES)) : Int := ptE l 10 2 9
theorem iok_plG {f : FuncId} {n : Nat} (hA : AllOk Tryz.prog tabLaid tFs) (he : entry Tryz.prog f = some (n, pcOf Tryz.prog f [])) (hn : 1 ≤ n)
    (hE : ∀ l, EndsN XTV 21 f (fun v _ => v = pText l) (st f n [.slice (some ⟨20, 0, some 0⟩) l.length capU] (putRows hp0 true [⟨kES, l⟩]))) : IOk Tryz.prog tabLaid f (footF tabLaid 20 [] (plG ptS ptE')) :=
  iok_foot (fs := tFs) hA (by kernel_rfl) (n := n) (N := 20) (muts := []) (G := plG ptS ptE') he rfl fun argsc objs x hx _ => by
    unfold plG at hx
    split at hx
    · rename_i m c l ro _
      simp only [GT.run] at hx
      split at hx
      · rename_i hc
        cases hx
        obtain ⟨rfl, rfl⟩ := hc
        refine ⟨by simpa using hn, EndsN.mono (hE l) fun v H h => ?_⟩
        subst h
        exact tm_plain (by rfl)
      · cases hx
    · cases hx
theorem iok_pl (hA : AllOk Tryz.prog tabLaid tFs) : IOk Tryz.prog tabLaid 10 (footF tabLaid 20 [] (plG ptS ptE')) := iok_plG hA (n := 39) (by kernel_rfl) (by omega) pl_ends
theorem iok_rf (hA : AllOk Tryz.prog tabLaid tFs) : IOk Tryz.prog tabLaid 11 (footF tabLaid 20 [] (plG ptS ptE')) := iok_plG hA (n := 73) (by kernel_rfl) (by omega) rf_ends
noncomputable abbrev XPV : Ctx := XP ptS ptE'
theorem allP (hw : KnownOk Tryz.prog tabLaid wrkK) (hA : AllOk Tryz.prog tabLaid tFs) : AllOk Tryz.prog tabLaid [(6, knownF wrkK), (10, footF tabLaid 20 [] (plG ptS ptE')), (11, footF tabLaid 20 [] (plG ptS ptE'))] :=
  AllOk.cons (iok_known hw) (AllOk.cons (iok_pl hA) (AllOk.cons (iok_rf hA) (AllOk.nil _ _)))
theorem pfP_ok : PfOk XPV (pfP ptS ptE') := by
  intro f F hf args H K hF
  unfold pfP at hf
  cases hb : (Nat.beq f 10 || Nat.beq f 11)
  · rw [hb] at hf; cases hf
  rw [hb] at hf; cases hf
  rw [Bool.or_eq_true] at hb
  rcases hb with hb | hb
  · have := Nat.eq_of_beq_eq_true hb; subst this
    exact footPf_ok (X := XPV) rfl hF
  · have := Nat.eq_of_beq_eq_true hb; subst this
    exact footPf_ok (X := XPV) rfl hF
theorem pt_loop (l : List (EK.C kES)) (k : Nat) (hk : k ≤ l.length) (hk2 : k ≤ 201) : ∀ (m i : Nat) (n : Int), k - i = m → i ≤ k →
    EndsN XPV 21 4 (fun v _ => v = .bool true) (ptT l (.slice (some ⟨20, 0, some 0⟩) k capU) k n i) := by
  intro m
  induction m with
  | zero =>
    intro i n hm hi
    refine VCs_ok pfP_ok (ids := []) (S := ptS0) rfl (Q := fun v _ => v = .bool true) (R := fun _ => False) (fun v H h => h) (fun c h => h.elim) 2000 _ ?_
    rw [vc_pt1]
    refine bif_decide (fun h => ?_) (fun _ => ?_)
    · exfalso; omega
    have e1 : (ByteArray.toList (ptS l) == ByteArray.toList (ptS l)) = true := by simp
    have e2 : (ptE' l == ptE' l) = true := by simp
    repeat' first
      | exact rfl
      | exact ⟨⟨rfl, rfl⟩, ⟨rfl, rfl⟩, bif_true e1 (bif_true e2 rfl)⟩
      | refine bif_decide (fun _ => ?_) (fun _ => ?_)
  | succ m ih =>
    intro i n hm hi
    have hlt : i < k := by omega
    refine VCs_ok pfP_ok (ids := []) (S := ptS0) rfl (Q := fun v _ => v = .bool true) (R := fun c => ∃ n', c = ptT l (.slice (some ⟨20, 0, some 0⟩) k capU) k n' (i + 1 : Nat)) (fun v H h => h)
      (fun c h => by obtain ⟨n', rfl⟩ := h; exact ih (i + 1) n' (by omega) (by omega)) 2000 _ ?_
    rw [vc_pt1]
    refine bif_decide (fun _ => ?_) (fun h => absurd (show (i : Int) < (k : Int) by omega) h)
    refine bif_true (at_ok hlt) (bif_true (at_ok0 (by omega)) ⟨IntKind.wrap IntKind.i64 (n + Int.ofNat (ByteArray.size (Prod.snd (List.getD l (0 + Int.toNat (i : Int)) (EK.dflt kES))))), ?_⟩)
    rw [wrap64 (x := (i : Int) + 1) (by omega) (by omega), capU_eq]
    rfl
theorem pt_ends (l : List (EK.C kES)) : EndsN XPV 21 4 (fun v _ => v = .bool true) (st 4 65 [.slice (some ⟨20, 0, some 0⟩) l.length capU] (putRows hp0 true [⟨kES, l⟩])) := by
  obtain ⟨k, hk⟩ : ∃ k : Nat, (if 201 < Int.ofNat l.length then 201 else Int.ofNat l.length) = (k : Int) ∧ k ≤ l.length ∧ k ≤ 201 := by
    split
    · rename_i h
      exact ⟨201, rfl, by have : (201 : Int) < l.length := h; omega, by omega⟩
    · rename_i h
      exact ⟨l.length, rfl, Nat.le_refl _, by have : ¬ (201 : Int) < l.length := h; omega⟩
  obtain ⟨hk, hk1, hk2⟩ := hk
  refine VCs_ok pfP_ok (ids := []) (S := ptS0) rfl (Q := fun v _ => v = .bool true) (R := fun c => c = ptT l (.slice (some ⟨20, 0, some 0⟩) k capU) k 0 0) (fun v H h => h)
    (fun c h => by rw [h]; exact pt_loop l k hk1 hk2 k 0 0 (by omega) (by omega)) 2000 _ ?_
  rw [vc_pt0, hk, Int.toNat_natCast]
  refine bif_true ?_ ?_
  · have h1 : Nat.ble k l.length = true := Nat.ble_eq_true_of_le hk1
    have h2 : Nat.ble 0 k = true := Nat.ble_eq_true_of_le (Nat.zero_le _)
    rw [h1, h2]
    simp
  · rw [Nat.sub_zero, capU_eq]
    rfl
theorem ptn_ends : EndsIn XPN 4 (fun v _ => v = .bool true) (st 4 65 [.slice none 0 0] hp0) := by
  refine VC_ok (ids := []) (Q := fun v _ => v = .bool true) 3000 _ ?_
  rw [vc_ptn]
end Go.Ideal
