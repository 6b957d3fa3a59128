/-
  Part of the proof: the machine that runs a program by fixed orders, and that each of its runs is a run of the model; or a run of it in parts. No conditions.
-/
import Derived.Test.YtfgamdmnljnonaaGreatDoorC41s3
set_option maxRecDepth 1000000
namespace Go.Ideal
open Go.Proofs
def planOk (p : Int × Bool × List Int) : Prop := (0 ≤ p.1 ∧ p.1 ≤ 1000000) ∧ planKs 8192 p.2.2
def planIn (s : ByteArray) : Prop := ∃ p : Int × Bool × List Int, planOk p ∧ s = planB p.1 p.2.1 p.2.2
open Classical in
noncomputable def plC (s : ByteArray) : Int × Bool × List Int := if h : planIn s then h.choose else (0, false, [])
theorem plC_ok {s : ByteArray} (h : planIn s) : planOk (plC s) ∧ s = planB (plC s).1 (plC s).2.1 (plC s).2.2 := by
  unfold plC
  rw [dif_pos h]
  exact h.choose_spec
noncomputable def kN (s : ByteArray) (i : Nat) : Int := (plC s).2.2.getD i 0
noncomputable def rdV (s : ByteArray) (n c : Nat) : Value := .agg ⟨[.int .i64 (plC s).1, .bool (plC s).2.1, .slice (some ⟨20, 0, none⟩) n c]⟩
open Classical in
noncomputable def readG (args : List Value) (objs : List IObj) : GT := match args, objs with
  | [.string s], [] => .ask (planIn s) (.test ((plC s).2.2.length == 1) (.ret ⟨rdV s 1 18446744073709551617, [], [.cells [.int .i64 (kN s 0)] 1 false]⟩)
      (.test ((plC s).2.2.length == 2) (.ret ⟨rdV s 2 18446744073709551618, [], [.cells [.int .i64 (kN s 0), .int .i64 (kN s 1)] 1 false]⟩)
        (.ret ⟨rdV s 3 18446744073709551619, [], [.cells [.int .i64 (kN s 0), .int .i64 (kN s 1), .int .i64 (kN s 2)] 1 false]⟩)))
  | _, _ => .fail
theorem renL_ints {ρ : Ren} : ∀ ks : List Int, renL (renV ρ) (ks.map fun k => Value.int .i64 k) = some (ks.map fun k => Value.int .i64 k)
  | [] => rfl
  | k :: r => by
    have h := renL_ints (ρ := ρ) r
    simp only [List.map_cons, renL, h, renV, renN]
theorem renO_keep {ρ : Ren} (ks : List Int) : renO ρ (keepO ks) = some (keepO ks) := by
  show (renL (renV ρ) (ks.map fun k => Value.int .i64 k)).map (fun l => IObj.cells l 1 false) = _
  rw [renL_ints]
  rfl
theorem wrd_plan {p : Int × Bool × List Int} : let s := planB p.1 p.2.1 p.2.2; Go.Lib.splitB { data := #[32] } 0 (Go.Lib.countB s { data := #[32] }) s = spl s ∧ (spl s).getD 0 (EK.dflt [SK.str]) = decB p.1 ∧ (spl s).getD 1 (EK.dflt [SK.str]) = bs [if p.2.1 then 121 else 110] ∧ (spl s).getD 2 (EK.dflt [SK.str]) = bs (joinC p.2.2) := by
  intro s
  obtain ⟨h1, h2⟩ := plan_split p.1 p.2.1 p.2.2
  have h1 : Go.Lib.countB s { data := #[32] } = 2 := h1
  have h2 : Go.Lib.splitB (bs [32]) 0 2 s = [decB p.1, bs [if p.2.1 then 121 else 110], bs (joinC p.2.2)] := h2
  have h3 : spl s = [decB p.1, bs [if p.2.1 then 121 else 110], bs (joinC p.2.2)] := by
    unfold spl wrd
    rw [h2]; rfl
  refine ⟨?_, by rw [h3]; rfl, by rw [h3]; rfl, by rw [h3]; rfl⟩
  rw [h1, h3]; exact h2
theorem joinC_len : ∀ ks : List Int, (∀ k ∈ ks, inK k) → (joinC ks).length ≤ 9 * ks.length
  | [], _ => by simp [joinC]
  | [k], h => by
    have := dec5 (h k (by simp))
    show (decB k).size ≤ _
    simp only [List.length_cons, List.length_nil]; omega
  | k :: l :: r, h => by
    have h1 := dec5 (h k (by simp))
    have h2 := joinC_len (l :: r) fun x hx => h x (by simp [hx])
    rw [join_cons, List.length_append, List.length_cons]
    have h1 : (Go.Lib.decDigits k.toNat).length ≤ 8 := h1
    simp only [List.length_cons] at h2 ⊢
    omega
theorem planB_size {p : Int × Bool × List Int} (h : planOk p) : (planB p.1 p.2.1 p.2.2).size ≤ 100 := by
  have h1 : (Go.Lib.decDigits p.1.toNat).length ≤ 8 := decB_len h.1.2
  have h2 := joinC_len p.2.2 h.2.2.2
  have h3 := h.2.2.1
  unfold planB
  rw [bs_size, List.length_append, List.length_cons, List.length_append, List.length_cons, List.length_cons, List.length_nil]
  omega
theorem read_ends {p : Int × Bool × List Int} (h : planOk p) : EndsN XRd 20 f_fault_read (RdQ p.1 p.2.1 p.2.2) (st f_fault_read 50 [.string (planB p.1 p.2.1 p.2.2)] hp0) := by
  obtain ⟨e0, e1, e2, e3⟩ := wrd_plan (p := p)
  have hsz := planB_size h
  refine VCt_ok pfRd_ok (ids := []) (S := rdS) (ks := rdK) rfl (Q := fun _ _ => False) (R := fun c => c = rd0 (bs (joinC p.2.2)) p.1 p.2.1) (fun v H h => h.elim) (fun c hc => by rw [hc]; exact rd0_ends h.1 h.2) 1000 _ ?_
  rw [vc_rdS, e1, e2, e3, (numOf_dec h.1.1 (by have := h.1.2; omega)).1]
  refine ⟨⟨by omega, e0⟩, ?_⟩
  have hn : numIn (decB p.1) 1000000 := ⟨p.1, h.1.1, h.1.2, by omega, rfl⟩
  obtain ⟨a, y, ks⟩ := p
  cases y
  · have q1 : (ByteArray.toList (bs [110]) == ByteArray.toList { data := #[121] }) = false := by decide +kernel
    have q2 : (ByteArray.toList (bs [110]) == ByteArray.toList { data := #[110] }) = true := by decide +kernel
    exact bif_false q1 (bif_true q2 (bif_false q1 ⟨hn, congrArg Value.bool q1, rfl, rfl, rfl, rfl⟩))
  · have q1 : (ByteArray.toList (bs [121]) == ByteArray.toList { data := #[121] }) = true := by decide +kernel
    exact bif_true q1 (bif_true q1 ⟨hn, congrArg Value.bool q1, rfl, rfl, rfl, rfl⟩)
theorem iok_read (h296 : IOk Tryz.prog tabLaid f_strings_Split splitI) (h298 : IOk Tryz.prog tabLaid f_fault_number qNum.F) (h455 : IOk Tryz.prog tabLaid f_strings_Index indexI) : IOk Tryz.prog tabLaid f_fault_read (footF tabLaid 20 [] readG) := by
  refine iok_foot (fs := rdFs) (AllOk.cons h296 (AllOk.cons h298 (AllOk.cons h455 (AllOk.nil _ _)))) (by kernel_rfl) (n := 50) (by kernel_rfl) (by kernel_rfl) fun argsc objs x hx hro => ?_
  unfold readG at hx
  split at hx
  · rename_i s
    simp only [GT.run] at hx
    split at hx
    · rename_i hp
      obtain ⟨h1, h2⟩ := plC_ok hp
      have hE : EndsN XRd 20 f_fault_read (RdQ (plC s).1 (plC s).2.1 (plC s).2.2) (st f_fault_read 50 [.string s] hp0) := by
        have := read_ends h1
        rw [← h2] at this
        exact this
      have hx : (GT.test ((plC s).2.2.length == 1) (.ret ⟨rdV s 1 18446744073709551617, [], [.cells [.int .i64 (kN s 0)] 1 false]⟩)
          (.test ((plC s).2.2.length == 2) (.ret ⟨rdV s 2 18446744073709551618, [], [.cells [.int .i64 (kN s 0), .int .i64 (kN s 1)] 1 false]⟩)
            (.ret ⟨rdV s 3 18446744073709551619, [], [.cells [.int .i64 (kN s 0), .int .i64 (kN s 1), .int .i64 (kN s 2)] 1 false]⟩))).run = some x := hx
      have hx : x = ⟨.agg ⟨[.int .i64 (plC s).1, .bool (plC s).2.1, keepV 20 (plC s).2.2]⟩, [], [keepO (plC s).2.2]⟩ := by
        obtain ⟨g1, g2, _⟩ := h1.2
        unfold rdV kN at hx
        generalize (plC s).2.2 = ks at hx g1 g2
        match ks, g1, g2 with
        | [k], _, _ => simp only [GT.run, List.length_cons, List.length_nil] at hx; cases hx; rfl
        | [k, l], _, _ => simp only [GT.run, List.length_cons, List.length_nil] at hx; cases hx; rfl
        | [k, l, m], _, _ => simp only [GT.run, List.length_cons, List.length_nil] at hx; cases hx; rfl
      subst hx
      refine ⟨by simp, EndsN.mono hE fun v Hf h => ?_⟩
      obtain ⟨b, hb, rfl, hg⟩ := h
      refine ⟨[b], by simp, fun c hc => by
          have hc : c = b := by simpa using hc
          simp only [List.length_nil]; omega, rfl, ?_, fun j c o hj ho => ?_, fun j o hj => by cases hj⟩
      · rfl
      · cases j with
        | zero =>
          cases hj; cases ho
          exact ⟨_, renO_keep _, hg⟩
        | succ j => cases hj
    · cases hx
  · cases hx
end Go.Ideal
