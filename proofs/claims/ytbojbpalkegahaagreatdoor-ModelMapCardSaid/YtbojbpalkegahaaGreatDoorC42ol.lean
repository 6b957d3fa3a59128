/-
  Part of the proof: the machine that runs a program by fixed orders, and that each of its runs is a run of the model; or a run of it in parts. No conditions.
-/
import Derived.Test.YtbojbpalkegahaaGreatDoorAbr
import Derived.Test.YtbojbpalkegahaaGreatDoorWrkD
--CASTS
set_option maxRecDepth 1000000
namespace Go.Ideal
open Go.Proofs
abbrev kAct : EK := [.int .u8, .int .u8, .int .u8]
noncomputable abbrev fsMM : List (FuncId × IFun) := [(f_drumlinlaw42_works, knownF wrkK), (f_drumlinlaw42_begin, footF tab42 9 [] begG), (f_drumlinlaw42_known_act, footF tab42 9 [true, true, true] actG), (f_drumlinlaw42_known_agrees, footF tab42 9 [true, true, true] agrG)]
noncomputable def XMM : Ctx := ctxI Tryz.prog tab42 fsMM
noncomputable def pfMM : Pf := fun g => bif Nat.beq g f_drumlinlaw42_begin then some (footPf tab42 9 [] begG) else bif Nat.beq g f_drumlinlaw42_known_act then some (footPf tab42 9 [true, true, true] actG) else bif Nat.beq g f_drumlinlaw42_known_agrees then some (footPf tab42 9 [true, true, true] agrG) else noPf g
noncomputable def hMM (l : List (EK.C kAct)) : IHeap := (⟨.leaf, 9⟩ : IHeap).alloc (.vec kAct l true)
noncomputable def mmT (l : List (EK.C kAct)) (cfg : List Int) (mk : Pk) (tk : Pk) (len : Nat) (i : Int) : Cfg :=
  ⟨⟨f_drumlinlaw42_ModelMap, mkT [(1, sl9 l.length), (5, ptb 10), (6, .int .i64 i)], 38, [.code (pcOf Tryz.prog f_drumlinlaw42_ModelMap [1, 1, 1, 1, 0, 1, 0, 0]), .inLoop (pcOf Tryz.prog f_drumlinlaw42_ModelMap [1, 1, 1, 1, 0, 1, 0, 0]), .inBlock 0, .code (pcOf Tryz.prog f_drumlinlaw42_ModelMap [1, 1, 1, 1, 1])], [], false, .normal, none⟩, [],
    (((hMM l).alloc (.cells (knC cfg 11 12 len) 0 false)).alloc (.abs (.pack mk) false)).alloc (.abs (.pack tk) false)⟩
def mmS : Stop := ⟨f_drumlinlaw42_ModelMap, 0, 3, 10, [9], [1, 5, 6]⟩
theorem vc_mmN (slots : Int) (Q : Value → List (Option IObj) → Prop) : VCp XMM pfMM f_drumlinlaw42_ModelMap [] Q 300 (st f_drumlinlaw42_ModelMap 38 [.int .u8 slots, .slice none 0 0] ⟨.leaf, 9⟩) = (
 (isB slots) ∧
 (Q (.bool true) [])) := by kernel_rfl
theorem vc_mm0 (l : List (EK.C kAct)) (slots : Int) (Q : Value → List (Option IObj) → Prop) (R : Cfg → Prop) : VCs XMM pfMM f_drumlinlaw42_ModelMap [] mmS Q R 300 (st f_drumlinlaw42_ModelMap 38 [.int .u8 slots, sl9 l.length] (hMM l)) = (
 (bif decide (Int.ofNat (List.length l) > 80) then
  (Q (.bool true) [])
 else
  (isB slots) ∧
  (R (mmT l (cfgS (Int.tmod slots 8)) (Pk.model (m0 (Int.tmod slots 8))) (Pk.maps 0 []) 1 0)))) := by kernel_rfl
theorem vc_mm (l : List (EK.C kAct)) (cfg : List Int) (m : MSt) (n : Nat) (cur : List (EK.C kSS)) (i : Int) (Q : Value → List (Option IObj) → Prop) (R : Cfg → Prop) : VCs XMM pfMM f_drumlinlaw42_ModelMap [] mmS Q R 400 (mmT l cfg (.model m) (.maps n cur) (n + 1) i) = (
 (bif decide (i < Int.ofNat (List.length l)) then
  (bif decide (0 ≤ i) && Nat.blt (Int.toNat i) (List.length l) then
   (bif Nat.blt (0 + Int.toNat i) (List.length l) then
    ((n + 1 = n + 1 ∧ capU = capU) ∧ ActOk [List.getD cfg 0 0, List.getD cfg 1 0, List.getD cfg 2 0, List.getD cfg 3 0, List.getD cfg 4 0, List.getD cfg 5 0, List.getD cfg 6 0] m n cur (Prod.fst (List.getD l (0 + Int.toNat i) (EK.dflt kAct))) (Prod.fst (Prod.snd (List.getD l (0 + Int.toNat i) (EK.dflt kAct)))) (Prod.snd (Prod.snd (List.getD l (0 + Int.toNat i) (EK.dflt kAct))))) ∧
    (bif keepB [List.getD cfg 0 0, List.getD cfg 1 0, List.getD cfg 2 0, List.getD cfg 3 0, List.getD cfg 4 0, List.getD cfg 5 0, List.getD cfg 6 0] cur (Prod.fst (List.getD l (0 + Int.toNat i) (EK.dflt kAct))) (Prod.fst (Prod.snd (List.getD l (0 + Int.toNat i) (EK.dflt kAct)))) (Prod.snd (Prod.snd (List.getD l (0 + Int.toNat i) (EK.dflt kAct)))) then
     ((n + 1 = n + 1 ∧ capU = capU) ∧ ∃ i_1, i_1 < 1000 ∧ KInv [List.getD [List.getD cfg 0 0, List.getD cfg 1 0, List.getD cfg 2 0, List.getD cfg 3 0, List.getD cfg 4 0, List.getD cfg 5 0, List.getD cfg 6 0] 0 0, List.getD [List.getD cfg 0 0, List.getD cfg 1 0, List.getD cfg 2 0, List.getD cfg 3 0, List.getD cfg 4 0, List.getD cfg 5 0, List.getD cfg 6 0] 1 0, List.getD [List.getD cfg 0 0, List.getD cfg 1 0, List.getD cfg 2 0, List.getD cfg 3 0, List.getD cfg 4 0, List.getD cfg 5 0, List.getD cfg 6 0] 2 0, List.getD [List.getD cfg 0 0, List.getD cfg 1 0, List.getD cfg 2 0, List.getD cfg 3 0, List.getD cfg 4 0, List.getD cfg 5 0, List.getD cfg 6 0] 3 0, List.getD [List.getD cfg 0 0, List.getD cfg 1 0, List.getD cfg 2 0, List.getD cfg 3 0, List.getD cfg 4 0, List.getD cfg 5 0, List.getD cfg 6 0] 4 0, List.getD [List.getD cfg 0 0, List.getD cfg 1 0, List.getD cfg 2 0, List.getD cfg 3 0, List.getD cfg 4 0, List.getD cfg 5 0, List.getD cfg 6 0] 5 0, List.getD [List.getD cfg 0 0, List.getD cfg 1 0, List.getD cfg 2 0, List.getD cfg 3 0, List.getD cfg 4 0, List.getD cfg 5 0, List.getD cfg 6 0] 6 0] (nxM [List.getD cfg 0 0, List.getD cfg 1 0, List.getD cfg 2 0, List.getD cfg 3 0, List.getD cfg 4 0, List.getD cfg 5 0, List.getD cfg 6 0] m cur (Prod.fst (List.getD l (0 + Int.toNat i) (EK.dflt kAct))) (Prod.fst (Prod.snd (List.getD l (0 + Int.toNat i) (EK.dflt kAct)))) (Prod.snd (Prod.snd (List.getD l (0 + Int.toNat i) (EK.dflt kAct))))) n cur i_1) ∧
     (R (mmT l cfg (Pk.model (nxM [List.getD cfg 0 0, List.getD cfg 1 0, List.getD cfg 2 0, List.getD cfg 3 0, List.getD cfg 4 0, List.getD cfg 5 0, List.getD cfg 6 0] m cur (Prod.fst (List.getD l (0 + Int.toNat i) (EK.dflt kAct))) (Prod.fst (Prod.snd (List.getD l (0 + Int.toNat i) (EK.dflt kAct)))) (Prod.snd (Prod.snd (List.getD l (0 + Int.toNat i) (EK.dflt kAct)))))) (Pk.maps n cur) (n + 1) (IntKind.wrap IntKind.i64 (i + 1))))
    else
     ((nxN [List.getD cfg 0 0, List.getD cfg 1 0, List.getD cfg 2 0, List.getD cfg 3 0, List.getD cfg 4 0, List.getD cfg 5 0, List.getD cfg 6 0] n cur (Prod.fst (List.getD l (0 + Int.toNat i) (EK.dflt kAct))) (Prod.fst (Prod.snd (List.getD l (0 + Int.toNat i) (EK.dflt kAct)))) (Prod.snd (Prod.snd (List.getD l (0 + Int.toNat i) (EK.dflt kAct)))) + 1 = nxN [List.getD cfg 0 0, List.getD cfg 1 0, List.getD cfg 2 0, List.getD cfg 3 0, List.getD cfg 4 0, List.getD cfg 5 0, List.getD cfg 6 0] n cur (Prod.fst (List.getD l (0 + Int.toNat i) (EK.dflt kAct))) (Prod.fst (Prod.snd (List.getD l (0 + Int.toNat i) (EK.dflt kAct)))) (Prod.snd (Prod.snd (List.getD l (0 + Int.toNat i) (EK.dflt kAct)))) + 1 ∧ capU = capU) ∧ ∃ i_1, i_1 < 1000 ∧ KInv [List.getD [List.getD cfg 0 0, List.getD cfg 1 0, List.getD cfg 2 0, List.getD cfg 3 0, List.getD cfg 4 0, List.getD cfg 5 0, List.getD cfg 6 0] 0 0, List.getD [List.getD cfg 0 0, List.getD cfg 1 0, List.getD cfg 2 0, List.getD cfg 3 0, List.getD cfg 4 0, List.getD cfg 5 0, List.getD cfg 6 0] 1 0, List.getD [List.getD cfg 0 0, List.getD cfg 1 0, List.getD cfg 2 0, List.getD cfg 3 0, List.getD cfg 4 0, List.getD cfg 5 0, List.getD cfg 6 0] 2 0, List.getD [List.getD cfg 0 0, List.getD cfg 1 0, List.getD cfg 2 0, List.getD cfg 3 0, List.getD cfg 4 0, List.getD cfg 5 0, List.getD cfg 6 0] 3 0, List.getD [List.getD cfg 0 0, List.getD cfg 1 0, List.getD cfg 2 0, List.getD cfg 3 0, List.getD cfg 4 0, List.getD cfg 5 0, List.getD cfg 6 0] 4 0, List.getD [List.getD cfg 0 0, List.getD cfg 1 0, List.getD cfg 2 0, List.getD cfg 3 0, List.getD cfg 4 0, List.getD cfg 5 0, List.getD cfg 6 0] 5 0, List.getD [List.getD cfg 0 0, List.getD cfg 1 0, List.getD cfg 2 0, List.getD cfg 3 0, List.getD cfg 4 0, List.getD cfg 5 0, List.getD cfg 6 0] 6 0] (nxM [List.getD cfg 0 0, List.getD cfg 1 0, List.getD cfg 2 0, List.getD cfg 3 0, List.getD cfg 4 0, List.getD cfg 5 0, List.getD cfg 6 0] m cur (Prod.fst (List.getD l (0 + Int.toNat i) (EK.dflt kAct))) (Prod.fst (Prod.snd (List.getD l (0 + Int.toNat i) (EK.dflt kAct)))) (Prod.snd (Prod.snd (List.getD l (0 + Int.toNat i) (EK.dflt kAct))))) (nxN [List.getD cfg 0 0, List.getD cfg 1 0, List.getD cfg 2 0, List.getD cfg 3 0, List.getD cfg 4 0, List.getD cfg 5 0, List.getD cfg 6 0] n cur (Prod.fst (List.getD l (0 + Int.toNat i) (EK.dflt kAct))) (Prod.fst (Prod.snd (List.getD l (0 + Int.toNat i) (EK.dflt kAct)))) (Prod.snd (Prod.snd (List.getD l (0 + Int.toNat i) (EK.dflt kAct))))) (nxL [List.getD cfg 0 0, List.getD cfg 1 0, List.getD cfg 2 0, List.getD cfg 3 0, List.getD cfg 4 0, List.getD cfg 5 0, List.getD cfg 6 0] cur (Prod.fst (List.getD l (0 + Int.toNat i) (EK.dflt kAct))) (Prod.fst (Prod.snd (List.getD l (0 + Int.toNat i) (EK.dflt kAct)))) (Prod.snd (Prod.snd (List.getD l (0 + Int.toNat i) (EK.dflt kAct))))) i_1) ∧
     (R (mmT l cfg (Pk.model (nxM [List.getD cfg 0 0, List.getD cfg 1 0, List.getD cfg 2 0, List.getD cfg 3 0, List.getD cfg 4 0, List.getD cfg 5 0, List.getD cfg 6 0] m cur (Prod.fst (List.getD l (0 + Int.toNat i) (EK.dflt kAct))) (Prod.fst (Prod.snd (List.getD l (0 + Int.toNat i) (EK.dflt kAct)))) (Prod.snd (Prod.snd (List.getD l (0 + Int.toNat i) (EK.dflt kAct)))))) (Pk.maps (nxN [List.getD cfg 0 0, List.getD cfg 1 0, List.getD cfg 2 0, List.getD cfg 3 0, List.getD cfg 4 0, List.getD cfg 5 0, List.getD cfg 6 0] n cur (Prod.fst (List.getD l (0 + Int.toNat i) (EK.dflt kAct))) (Prod.fst (Prod.snd (List.getD l (0 + Int.toNat i) (EK.dflt kAct)))) (Prod.snd (Prod.snd (List.getD l (0 + Int.toNat i) (EK.dflt kAct))))) (nxL [List.getD cfg 0 0, List.getD cfg 1 0, List.getD cfg 2 0, List.getD cfg 3 0, List.getD cfg 4 0, List.getD cfg 5 0, List.getD cfg 6 0] cur (Prod.fst (List.getD l (0 + Int.toNat i) (EK.dflt kAct))) (Prod.fst (Prod.snd (List.getD l (0 + Int.toNat i) (EK.dflt kAct)))) (Prod.snd (Prod.snd (List.getD l (0 + Int.toNat i) (EK.dflt kAct)))))) (nxN [List.getD cfg 0 0, List.getD cfg 1 0, List.getD cfg 2 0, List.getD cfg 3 0, List.getD cfg 4 0, List.getD cfg 5 0, List.getD cfg 6 0] n cur (Prod.fst (List.getD l (0 + Int.toNat i) (EK.dflt kAct))) (Prod.fst (Prod.snd (List.getD l (0 + Int.toNat i) (EK.dflt kAct)))) (Prod.snd (Prod.snd (List.getD l (0 + Int.toNat i) (EK.dflt kAct)))) + 1) (IntKind.wrap IntKind.i64 (i + 1)))))
   else
    False)
  else
   False)
 else
  (Q (.bool true) []))) := by kernel_rfl
end Go.Ideal

set_option maxRecDepth 1000000
namespace Go.Ideal
open Go.Proofs
theorem pfMM_ok : PfOk XMM pfMM := pf_cons (fun _ _ _ h => footPf_ok (by kernel_rfl) h) (pf_cons (fun _ _ _ h => footPf_ok (by kernel_rfl) h) (pf_cons (fun _ _ _ h => footPf_ok (by kernel_rfl) h) (noPf_ok _)))
theorem allMM (hw : KnownOk Tryz.prog tab42 wrkK) : AllOk Tryz.prog tab42 fsMM := AllOk.cons (iok_known hw) (AllOk.cons iok_beg (AllOk.cons iok_act (AllOk.cons iok_agr (AllOk.nil _ _))))
def actIn (x : EK.C kAct) : Prop := isB x.1 ∧ isB x.2.1 ∧ isB x.2.2
theorem mm_loop (l : List (EK.C kAct)) (hin : ∀ x ∈ l, actIn x) (hl : l.length ≤ 80) {cfg : List Int} (hcfg : [List.getD cfg 0 0, List.getD cfg 1 0, List.getD cfg 2 0, List.getD cfg 3 0, List.getD cfg 4 0, List.getD cfg 5 0, List.getD cfg 6 0] = cfg) : ∀ (q i : Nat) (m : MSt) (n : Nat) (cur : List (EK.C kSS)), l.length - i = q → i ≤ l.length → KInv cfg m n cur i →
    EndsN XMM 10 f_drumlinlaw42_ModelMap (fun v _ => v = .bool true) (mmT l cfg (.model m) (.maps n cur) (n + 1) i) := by
  intro q
  induction q with
  | zero =>
    intro i m n cur hq hi h
    refine VCs_ok pfMM_ok (ids := []) (S := mmS) (by kernel_rfl) (Q := fun v _ => v = .bool true) (R := fun _ => False) (fun v H h => h) (fun c h => h.elim) 400 _ ?_
    rw [vc_mm]
    refine bif_decide (fun h => ?_) (fun _ => rfl)
    exfalso; have : (i : Int) < l.length := h; omega
  | succ q ih =>
    intro i m n cur hq hi h
    have hlt : i < l.length := by omega
    have hx := hin l[i] (List.getElem_mem hlt)
    have hnx : KInv cfg (nxM cfg m cur l[i].1 l[i].2.1 l[i].2.2) (nxN cfg n cur l[i].1 l[i].2.1 l[i].2.2) (nxL cfg cur l[i].1 l[i].2.1 l[i].2.2) (i + 1) := by
      obtain ⟨_, hk, hs, hv⟩ := op_facts l[i].1 l[i].2.1 l[i].2.2
      exact inv_act h hk hs hv (by omega)
    refine VCs_ok pfMM_ok (ids := []) (S := mmS) (by kernel_rfl) (Q := fun _ _ => False) (R := fun c => c = mmT l cfg (.model (nxM cfg m cur l[i].1 l[i].2.1 l[i].2.2)) (.maps (nxN cfg n cur l[i].1 l[i].2.1 l[i].2.2) (nxL cfg cur l[i].1 l[i].2.1 l[i].2.2)) (nxN cfg n cur l[i].1 l[i].2.1 l[i].2.2 + 1) (i + 1 : Nat)) (fun v H h => h.elim) (fun c h => by rw [h]; exact ih (i + 1) _ _ _ (by omega) (by omega) hnx) 400 _ ?_
    rw [vc_mm]
    simp only [hcfg]
    refine bif_decide (fun _ => ?_) (fun h => absurd (show (i : Int) < Int.ofNat l.length by simpa using hlt) h)
    refine bif_true (ca hlt) (bif_true (cb hlt) ?_)
    rw [getD_at hlt, succ_wrap (by omega)]
    refine ⟨⟨⟨trivial, trivial⟩, ⟨i, by omega, h⟩, hx⟩, bif_both (fun hk => ?_) (fun hk => ?_)⟩
    · have hkk : nxN cfg n cur l[i].1 l[i].2.1 l[i].2.2 = n ∧ nxL cfg cur l[i].1 l[i].2.1 l[i].2.2 = cur := by
        unfold keepB at hk
        simp only [Bool.and_eq_true, Bool.not_eq_true'] at hk
        unfold nxN nxL actN actL
        rw [hk.1, hk.2]; exact ⟨rfl, rfl⟩
      rw [hkk.1, hkk.2] at hnx ⊢
      exact ⟨⟨⟨trivial, trivial⟩, i + 1, by omega, hnx⟩, rfl⟩
    · exact ⟨⟨⟨trivial, trivial⟩, i + 1, by omega, hnx⟩, rfl⟩
theorem mm_row (l : List (EK.C kAct)) (hin : ∀ x ∈ l, actIn x) {slots : Int} (hs : isB slots) : EndsN XMM 10 f_drumlinlaw42_ModelMap (fun v _ => v = .bool true) (st f_drumlinlaw42_ModelMap 38 [.int .u8 slots, sl9 l.length] (hMM l)) := by
  obtain ⟨h0, h7⟩ := tmod8 hs
  by_cases hl : l.length ≤ 80
  · refine VCs_ok pfMM_ok (ids := []) (S := mmS) (by kernel_rfl) (Q := fun _ _ => False) (R := fun c => c = mmT l (cfgS (Int.tmod slots 8)) (.model (m0 (Int.tmod slots 8))) (.maps 0 []) (0 + 1) (0 : Nat)) (fun v H h => h.elim) (fun c h => by rw [h]; exact mm_loop l hin hl rfl l.length 0 _ 0 [] (by omega) (by omega) (inv0 h0 h7)) 300 _ ?_
    rw [vc_mm0]
    refine bif_decide (fun h => ?_) (fun _ => ⟨hs, rfl⟩)
    exfalso; have : (l.length : Int) > 80 := h; omega
  · refine VCs_ok pfMM_ok (ids := []) (S := mmS) (by kernel_rfl) (Q := fun v _ => v = .bool true) (R := fun _ => False) (fun v H h => h) (fun c h => h.elim) 300 _ ?_
    rw [vc_mm0]
    refine bif_decide (fun _ => rfl) (fun h => ?_)
    exfalso; exact h (by show (l.length : Int) > 80; omega)
theorem mm_nil {slots : Int} (hs : isB slots) : EndsIn XMM f_drumlinlaw42_ModelMap (fun v _ => v = .bool true) (st f_drumlinlaw42_ModelMap 38 [.int .u8 slots, .slice none 0 0] ⟨.leaf, 9⟩) := by
  refine VCp_ok pfMM_ok (ids := []) (Q := fun v _ => v = .bool true) 300 _ ?_
  rw [vc_mmN]
  exact ⟨hs, rfl⟩
end Go.Ideal
