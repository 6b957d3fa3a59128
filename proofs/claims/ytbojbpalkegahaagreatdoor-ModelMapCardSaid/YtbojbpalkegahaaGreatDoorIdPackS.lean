/-
  Part of the proof: the machine that runs a program by fixed orders, and that each of its runs is a run of the model; or a run of it in parts. No conditions.
-/
import Derived.Test.YtbojbpalkegahaaGreatDoorIdFoot
import Derived.Test.YtbojbpalkegahaaGreatDoorIdConc
import Derived.Test.YtbojbpalkegahaaGreatDoorChecked
import Derived.Test.YtbojbpalkegahaaGreatDoorIdMaps
import Derived.WalkKit
import Derived.Lib.Walk
import Derived.Lib.SliceRun
import Derived.Lib.JoinLaws
import Derived.Lib.AppendZeros
import Derived.Lib.AppendZerosOnto
import Derived.Lib.Overlaps
import Derived.Laws.Externs
import Derived.Laws.IdiomCopy
import Derived.Laws.NewBlocks
import Derived.Shelf.RegionOpenPlain
import Derived.Shelf.Spec.SlicesInsert
import Derived.OwnWalk
import Derived.Deep.RegionLaw
import Derived.Below
namespace Go.Ideal

theorem renL_inv {f g : Value → Option Value} (h : ∀ v w, f v = some w → g w = some v) : ∀ (l m : List Value), renL f l = some m → renL g m = some l
  | [], _, e => by cases e; rfl
  | v :: l, m, e => by
    simp only [renL] at e
    split at e
    · rename_i w k e1 e2
      cases e
      simp only [renL, h _ _ e1, renL_inv h l k e2]
    · cases e
theorem ren_inv {σ τ : Ren} (h : ∀ b c, σ b = some c → τ c = some b) : ∀ (n : Nat) (v w : Value), renN σ n v = some w → renN τ n w = some v := by
  intro n
  induction n with
  | zero => intro v w e; cases e
  | succ n ih =>
    intro v w e
    cases v with
    | bool b => cases e; rfl
    | int k m => cases e; rfl
    | float k m => cases e; rfl
    | string s => cases e; rfl
    | pointer a =>
      cases a with
      | none => cases e; rfl
      | some a =>
        simp only [renN, Option.map_eq_some_iff] at e
        obtain ⟨a1, h1, rfl⟩ := e
        obtain ⟨b, o, s, i, rfl, h2, rfl⟩ := renA_eq h1
        simp only [renN, renA, h _ _ h2, Option.map_some]
    | slice a l c =>
      cases a with
      | none => cases e; rfl
      | some a =>
        simp only [renN, Option.map_eq_some_iff] at e
        obtain ⟨a1, h1, rfl⟩ := e
        obtain ⟨b, o, s, i, rfl, h2, rfl⟩ := renA_eq h1
        simp only [renN, renA, h _ _ h2, Option.map_some]
    | map a =>
      cases a with
      | none => cases e; rfl
      | some a =>
        simp only [renN, Option.map_eq_some_iff] at e
        obtain ⟨i, h1, rfl⟩ := e
        simp only [renN, h _ _ h1, Option.map_some]
    | nilFunc => cases e; rfl
    | nilIface => cases e; rfl
    | iface t v =>
      simp only [renN, Option.map_eq_some_iff] at e
      obtain ⟨w1, h1, rfl⟩ := e
      simp only [renN, ih _ _ h1, Option.map_some]
    | agg cs =>
      simp only [renN, Option.map_eq_some_iff] at e
      obtain ⟨l, h1, rfl⟩ := e
      simp only [renN, renL_inv ih _ _ h1, Option.map_some]
    | tuple cs =>
      simp only [renN, Option.map_eq_some_iff] at e
      obtain ⟨l, h1, rfl⟩ := e
      simp only [renN, renL_inv ih _ _ h1, Option.map_some]
    | func f xs ys =>
      cases f with
      | func f =>
        simp only [renN] at e
        split at e
        · rename_i a b e1 e2
          cases e
          simp only [renN, renL_inv ih _ _ e1, renL_inv ih _ _ e2]
        · cases e
      | _ => simp [renN] at e
    | chan c =>
      cases c with
      | none => simp [renN] at e
      | some k =>
        cases k with
        | zero => cases e; rfl
        | succ k => simp [renN] at e
    | _ => simp [renN] at e
theorem renO_inv {σ τ : Ren} (h : ∀ b c, σ b = some c → τ c = some b) {o o1 : IObj} (e : renO σ o = some o1) : renO τ o1 = some o := by
  cases o with
  | cells cs k ro =>
    simp only [renO, Option.map_eq_some_iff] at e
    obtain ⟨l, h1, rfl⟩ := e
    simp only [renO, renL_inv (ren_inv h 6) _ _ h1, Option.map_some]
  | vec k l ro =>
    rcases renO_vec e with ⟨l2, l1, e2, h1, rfl⟩ | ⟨hk, rfl⟩
    · cases e2
      exact renO_tok (renL_inv (ren_inv h 6) _ _ h1)
    · exact renO_plain _ hk _ _
  | abs a ro =>
    simp only [renO] at e
    cases hx : a.shutB
    · simp [hx] at e
    · simp only [hx, cond_true, Option.some.injEq] at e
      subst e
      simp only [renO, hx, cond_true]
  | _ => simp [renO] at e

theorem renL_comp {f g k : Value → Option Value} (h : ∀ v w, f v = some w → g w = k v) : ∀ (l m : List Value), renL f l = some m → renL g m = renL k l
  | [], _, e => by cases e; rfl
  | v :: l, m, e => by
    simp only [renL] at e
    split at e
    · rename_i w q e1 e2
      cases e
      simp only [renL, h _ _ e1, renL_comp h l q e2]
    · cases e
theorem ren_comp {σ τ υ : Ren} (h : ∀ b c, σ b = some c → τ c = υ b) : ∀ (n : Nat) (v w : Value), renN σ n v = some w → renN τ n w = renN υ n v := by
  intro n
  induction n with
  | zero => intro v w e; cases e
  | succ n ih =>
    intro v w e
    cases v with
    | bool b => cases e; rfl
    | int k m => cases e; rfl
    | float k m => cases e; rfl
    | string s => cases e; rfl
    | pointer a =>
      cases a with
      | none => cases e; rfl
      | some a =>
        simp only [renN, Option.map_eq_some_iff] at e
        obtain ⟨a1, h1, rfl⟩ := e
        obtain ⟨b, o, s, i, rfl, h2, rfl⟩ := renA_eq h1
        simp only [renN, renA, h _ _ h2]
    | slice a l c =>
      cases a with
      | none => cases e; rfl
      | some a =>
        simp only [renN, Option.map_eq_some_iff] at e
        obtain ⟨a1, h1, rfl⟩ := e
        obtain ⟨b, o, s, i, rfl, h2, rfl⟩ := renA_eq h1
        simp only [renN, renA, h _ _ h2]
    | map a =>
      cases a with
      | none => cases e; rfl
      | some a =>
        simp only [renN, Option.map_eq_some_iff] at e
        obtain ⟨i, h1, rfl⟩ := e
        simp only [renN, h _ _ h1]
    | nilFunc => cases e; rfl
    | nilIface => cases e; rfl
    | iface t v =>
      simp only [renN, Option.map_eq_some_iff] at e
      obtain ⟨w1, h1, rfl⟩ := e
      simp only [renN, ih _ _ h1]
    | agg cs =>
      simp only [renN, Option.map_eq_some_iff] at e
      obtain ⟨l, h1, rfl⟩ := e
      simp only [renN, renL_comp ih _ _ h1]
    | tuple cs =>
      simp only [renN, Option.map_eq_some_iff] at e
      obtain ⟨l, h1, rfl⟩ := e
      simp only [renN, renL_comp ih _ _ h1]
    | func f xs ys =>
      cases f with
      | func f =>
        simp only [renN] at e
        split at e
        · rename_i a b e1 e2
          cases e
          simp only [renN, renL_comp ih _ _ e1, renL_comp ih _ _ e2]
        · cases e
      | _ => simp [renN] at e
    | chan c =>
      cases c with
      | none => simp [renN] at e
      | some k =>
        cases k with
        | zero => cases e; rfl
        | succ k => simp [renN] at e
    | _ => simp [renN] at e
theorem renO_comp {σ τ υ : Ren} (h : ∀ b c, σ b = some c → τ c = υ b) {o o1 : IObj} (e : renO σ o = some o1) : renO τ o1 = renO υ o := by
  cases o with
  | cells cs k ro =>
    simp only [renO, Option.map_eq_some_iff] at e
    obtain ⟨l, h1, rfl⟩ := e
    simp only [renO, renL_comp (ren_comp h 6) _ _ h1]
  | vec k l ro =>
    rcases renO_vec e with ⟨l2, l1, e2, h1, rfl⟩ | ⟨hk, rfl⟩
    · cases e2
      show (renL (renV τ) l1).map _ = (renL (renV υ) l2).map _
      rw [renL_comp (ren_comp h 6) _ _ h1]
    · rw [renO_plain _ hk, renO_plain _ hk]
  | abs a ro =>
    simp only [renO] at e
    cases hx : a.shutB
    · simp [hx] at e
    · simp only [hx, cond_true, Option.some.injEq] at e
      subst e
      simp only [renO, hx, cond_true]
  | _ => simp [renO] at e
theorem renO_asRo {ρ : Ren} {o o1 : IObj} (h : renO ρ o = some o1) : renO ρ (asRo o) = some (asRo o1) ∧ (asRo o).ro = true := by
  cases o with
  | cells cs k ro =>
    simp only [renO, Option.map_eq_some_iff] at h
    obtain ⟨l, h1, rfl⟩ := h
    exact ⟨by simp only [asRo, renO, h1, Option.map_some], rfl⟩
  | vec k l ro =>
    rcases renO_vec h with ⟨l2, l1, e2, h1, rfl⟩ | ⟨hk, rfl⟩
    · cases e2
      exact ⟨renO_tok h1, rfl⟩
    · exact ⟨renO_plain _ hk _ _, rfl⟩
  | abs a ro =>
    simp only [renO] at h
    cases hx : a.shutB
    · simp [hx] at h
    · simp only [hx, cond_true, Option.some.injEq] at h
      subst h
      exact ⟨by simp only [asRo, renO, hx, cond_true], rfl⟩
  | _ => simp [renO] at h

section
variable {laid : List (Nat × List Value)} {N : Nat} {bs : List Nat}
theorem lowOf_eq {b i : Nat} (h : lowOf laid N b = some i) : i = b ∧ b < N ∧ laid.any (fun p => Nat.beq b p.1) = true := by
  unfold lowOf at h
  cases hc : (Nat.blt b N && laid.any (fun p => Nat.beq b p.1))
  · simp only [hc, cond_false] at h; cases h
  · simp only [hc, cond_true, Option.some.injEq] at h
    simp only [Bool.and_eq_true] at hc
    exact ⟨h.symm, Nat.le_of_ble_eq_true hc.1, hc.2⟩
theorem outOf_lt {b : Nat} (h : b < N) : outOf laid N bs b = lowOf laid N b := by
  unfold outOf
  rw [show Nat.blt b N = true from Nat.ble_eq_true_of_le h]; rfl
theorem outOf_ge {b : Nat} (h : N ≤ b) : outOf laid N bs b = bs[b - N]? := by
  unfold outOf
  cases hb : Nat.blt b N
  · rfl
  · have : b < N := Nat.le_of_ble_eq_true hb; omega
theorem in_out {b c : Nat} (h : inOf laid N bs b = some c) : outOf laid N bs c = some b := by
  unfold inOf at h
  cases hb : Nat.blt b N
  · simp only [hb, cond_false] at h
    obtain ⟨h1, h2, h3⟩ := posIn_eq h
    rw [outOf_ge h1]; exact h3
  · simp only [hb, cond_true] at h
    obtain ⟨rfl, h2, _⟩ := lowOf_eq h
    rw [outOf_lt h2]; exact h
end

theorem objL_get {ρ : Ren} {H : IHeap} : ∀ {bs : List Nat} {objs : List IObj}, objL ρ H bs = some objs → objs.length = bs.length ∧ ∀ (j b : Nat), bs[j]? = some b → ∃ o o1, H.get b = some o ∧ renO ρ o = some o1 ∧ objs[j]? = some o1
  | [], _, h => by cases h; exact ⟨rfl, fun j b hb => by cases hb⟩
  | a :: r, objs, h => by
    simp only [objL] at h
    split at h
    · rename_i o ho
      split at h
      · rename_i o1 l h1 h2
        cases h
        obtain ⟨i1, i2⟩ := objL_get h2
        refine ⟨by simp [i1], fun j b hb => ?_⟩
        cases j with
        | zero =>
          simp only [List.getElem?_cons_zero, Option.some.injEq] at hb
          subst hb
          exact ⟨o, o1, ho, h1, rfl⟩
        | succ j => exact i2 j b hb
      · cases h
    · cases h
theorem viewL_get (muts : List Bool) : ∀ (objs : List IObj) (j0 j : Nat), (viewL muts j0 objs)[j]? = (objs[j]?).map fun o => bif mutAt muts (j0 + j) then o else asRo o
  | [], j0, j => by simp [viewL]
  | o :: r, j0, 0 => by simp [viewL]
  | o :: r, j0, j + 1 => by
    simp only [viewL, List.getElem?_cons_succ]
    rw [viewL_get muts r (j0 + 1) j, show j0 + 1 + j = j0 + (j + 1) by omega]
theorem viewL_length (muts : List Bool) : ∀ (objs : List IObj) (j0 : Nat), (viewL muts j0 objs).length = objs.length
  | [], _ => rfl
  | o :: r, j0 => by simp [viewL, viewL_length muts r]
theorem putL_next : ∀ (l : List IObj) (H : IHeap), (putL H l).next = H.next + l.length
  | [], _ => rfl
  | o :: r, H => by
    simp only [putL]
    rw [putL_next r]
    show H.next + 1 + r.length = _
    simp only [List.length_cons]; omega
theorem putL_get : ∀ (l : List IObj) (H : IHeap) (i : Nat), (putL H l).get i = if i < H.next then H.get i else match l[i - H.next]? with | some o => some o | none => H.get i
  | [], H, i => by simp only [putL, List.getElem?_nil]; split <;> rfl
  | o :: r, H, i => by
    simp only [putL]
    rw [putL_get r]
    have hn : (H.alloc o).next = H.next + 1 := rfl
    rw [hn]
    by_cases h1 : i < H.next
    · rw [if_pos (by omega), if_pos h1, IHeap.get_alloc, if_neg (by omega)]
    · rw [if_neg h1]
      by_cases h2 : i = H.next
      · subst h2
        rw [if_pos (by omega), IHeap.get_alloc, if_pos rfl, Nat.sub_self]
        rfl
      · rw [if_neg (by omega), show i - H.next = (i - (H.next + 1)) + 1 by omega, List.getElem?_cons_succ, IHeap.get_alloc, if_neg h2]
theorem mutsOk_get {muts : List Bool} {H : IHeap} : ∀ {bs : List Nat} {j0 : Nat}, mutsOk muts H j0 bs = true → ∀ (j b : Nat), bs[j]? = some b → mutAt muts (j0 + j) = true → ∃ o, H.get b = some o ∧ o.ro = false
  | [], _, _, j, b, hb, _ => by cases hb
  | a :: r, j0, h, j, b, hb, hm => by
    simp only [mutsOk, Bool.and_eq_true] at h
    cases j with
    | zero =>
      simp only [List.getElem?_cons_zero, Option.some.injEq] at hb
      subst hb
      rw [Nat.add_zero] at hm
      rw [hm] at h
      simp only [cond_true] at h
      cases hg : H.get a with
      | none => rw [hg] at h; cases h.1
      | some o => rw [hg] at h; exact ⟨o, rfl, by simpa using h.1⟩
    | succ j => exact mutsOk_get h.2 j b hb (by rw [show j0 + 1 + j = j0 + (j + 1) by omega]; exact hm)

theorem backL_get {ρ : Ren} {muts : List Bool} : ∀ {bs : List Nat} {H H1 : IHeap} {j0 : Nat} {os : List (Option IObj)}, backL ρ muts H j0 bs os = some H1 → bs.Nodup →
    H1.next = H.next ∧ (∀ i, i ∉ bs → H1.get i = H.get i) ∧ (∀ (j b : Nat), bs[j]? = some b → mutAt muts (j0 + j) = false → H1.get b = H.get b) ∧
    (∀ (j b : Nat) (o1 : IObj), bs[j]? = some b → mutAt muts (j0 + j) = true → H1.get b = some o1 → ∃ o, os[j]? = some (some o) ∧ renO ρ o = some o1 ∧ o1.ro = false)
  | [], H, H1, j0, os, h, _ => by cases h; exact ⟨rfl, fun _ _ => rfl, fun j b hb => (by cases hb), fun j b o1 hb => (by cases hb)⟩
  | a :: r, H, H1, j0, os, h, hn => by
    have hn := List.nodup_cons.1 hn
    have step : ∀ (H2 : IHeap) (os2 : List (Option IObj)) (hn2 : H2.next = H.next) (hg2 : ∀ i, i ≠ a → H2.get i = H.get i) (hos : ∀ j, os2[j]? = os[j + 1]?), backL ρ muts H2 (j0 + 1) r os2 = some H1 → (mutAt muts j0 = false → H2.get a = H.get a) → (∀ o1, mutAt muts j0 = true → H2.get a = some o1 → ∃ o, os[0]? = some (some o) ∧ renO ρ o = some o1 ∧ o1.ro = false) →
        H1.next = H.next ∧ (∀ i, i ∉ a :: r → H1.get i = H.get i) ∧ (∀ (j b : Nat), (a :: r)[j]? = some b → mutAt muts (j0 + j) = false → H1.get b = H.get b) ∧
        (∀ (j b : Nat) (o1 : IObj), (a :: r)[j]? = some b → mutAt muts (j0 + j) = true → H1.get b = some o1 → ∃ o, os[j]? = some (some o) ∧ renO ρ o = some o1 ∧ o1.ro = false) := by
      intro H2 os2 hn2 hg2 hos hb h0 h1
      obtain ⟨i1, i2, i3, i4⟩ := backL_get hb hn.2
      refine ⟨i1.trans hn2, fun i hi => ?_, fun j b hj hm => ?_, fun j b o1 hj hm hg => ?_⟩
      · rw [i2 i (fun h => hi (List.mem_cons_of_mem _ h)), hg2 i (fun h => hi (h ▸ List.mem_cons_self))]
      · cases j with
        | zero =>
          simp only [List.getElem?_cons_zero, Option.some.injEq] at hj
          subst hj
          rw [i2 a hn.1]; exact h0 hm
        | succ j =>
          have hj : r[j]? = some b := hj
          rw [i3 j b hj (by rw [show j0 + 1 + j = j0 + (j + 1) by omega]; exact hm), hg2 b]
          rintro rfl; exact hn.1 (List.mem_of_getElem? hj)
      · cases j with
        | zero =>
          simp only [List.getElem?_cons_zero, Option.some.injEq] at hj
          subst hj
          rw [i2 a hn.1] at hg
          exact h1 o1 hm hg
        | succ j =>
          have hj : r[j]? = some b := hj
          obtain ⟨o, q1, q2⟩ := i4 j b o1 hj (by rw [show j0 + 1 + j = j0 + (j + 1) by omega]; exact hm) hg
          rw [hos j] at q1
          exact ⟨o, q1, q2⟩
    unfold backL at h
    cases hm : mutAt muts j0
    · simp only [hm, cond_false] at h
      exact step H os.tail rfl (fun _ _ => rfl) (fun j => by cases os <;> simp) h (fun _ => rfl) (fun o1 hh => by rw [hm] at hh; cases hh)
    · simp only [hm, cond_true] at h
      split at h
      · rename_i o os2
        split at h
        · rename_i o1 ho1
          cases hro : o1.ro
          · simp only [hro, cond_false] at h
            exact step (H.put a o1) os2 rfl (fun i hi => by rw [IHeap.get_put, if_neg hi]) (fun _ => rfl) h (fun hh => by rw [hm] at hh; cases hh) (fun o2 _ hg => by
              rw [IHeap.get_put, if_pos rfl] at hg; cases hg; exact ⟨o, rfl, ho1, hro⟩)
          · simp only [hro, cond_true] at h; cases h
        · cases h
      · rename_i os2
        exact step (H.del a) os2 rfl (fun i hi => by rw [IHeap.get_del, if_neg hi]) (fun _ => rfl) h (fun hh => by rw [hm] at hh; cases hh) (fun o2 _ hg => by rw [IHeap.get_del, if_pos rfl] at hg; cases hg)
      · exact step (H.del a) [] rfl (fun i hi => by rw [IHeap.get_del, if_neg hi]) (fun _ => rfl) h (fun hh => by rw [hm] at hh; cases hh) (fun o2 _ hg => by rw [IHeap.get_del, if_pos rfl] at hg; cases hg)
theorem newL_get {ρ : Ren} : ∀ {l : List IObj} {H H1 : IHeap}, newL ρ H l = some H1 → H1.next = H.next + l.length ∧ (∀ i, i < H.next → H1.get i = H.get i) ∧ (∀ i o1, H.next ≤ i → i < H.next + l.length → H1.get i = some o1 → ∃ o, l[i - H.next]? = some o ∧ renO ρ o = some o1 ∧ o1.ro = false) ∧ (∀ i, H.next + l.length ≤ i → H1.get i = H.get i)
  | [], H, H1, h => by cases h; exact ⟨rfl, fun _ _ => rfl, fun i o1 h1 h2 => by simp at h2; omega, fun _ _ => rfl⟩
  | o :: r, H, H1, h => by
    simp only [newL] at h
    split at h
    · rename_i o1 ho1
      cases hro : o1.ro
      · simp only [hro, cond_false] at h
        obtain ⟨i1, i2, i3, i4⟩ := newL_get h
        have hn : (H.alloc o1).next = H.next + 1 := rfl
        rw [hn] at i1 i2 i3 i4
        simp only [List.length_cons]
        refine ⟨by omega, fun i hi => ?_, fun i o2 h1 h2 hg => ?_, fun i hi => ?_⟩
        · rw [i2 i (by omega), IHeap.get_alloc, if_neg (by omega)]
        · by_cases e : i = H.next
          · subst e
            rw [i2 _ (by omega), IHeap.get_alloc, if_pos rfl] at hg
            cases hg
            exact ⟨o, by rw [Nat.sub_self]; rfl, ho1, hro⟩
          · obtain ⟨o3, q1, q2⟩ := i3 i o2 (by omega) (by omega) hg
            exact ⟨o3, by rw [show i - H.next = (i - (H.next + 1)) + 1 by omega, List.getElem?_cons_succ]; exact q1, q2⟩
        · rw [i4 i (by omega), IHeap.get_alloc, if_neg (by omega)]
      · simp only [hro, cond_true] at h; cases h
    · cases h

theorem refs_dom {μ : Inj} : ∀ (n : Nat) (v v' : Value), VRel μ v v' → ∀ b ∈ refsN n v, ∃ T, μ b = some T := by
  intro n
  induction n with
  | zero => intro v v' _ b hb; cases hb
  | succ n ih =>
    intro v v' h b hb
    have hl : ∀ (l l' : List Value), LRel μ l l' → b ∈ l.flatMap (refsN n) → ∃ T, μ b = some T := by
      intro l l' hr hm
      induction hr with
      | nil => cases hm
      | cons h1 _ ihl =>
        rw [List.flatMap_cons, List.mem_append] at hm
        rcases hm with hm | hm
        · exact ih _ _ h1 b hm
        · exact ihl hm
    cases h with
    | junk => simp [refsN, junk] at hb
    | ptr c o T hm => simp only [refsN, List.mem_singleton] at hb; subst hb; exact ⟨T, hm⟩
    | vptr c o j T hm => simp only [refsN, List.mem_singleton] at hb; subst hb; exact ⟨T, hm⟩
    | slice c o l k k' o' T hm _ _ => simp only [refsN, List.mem_singleton] at hb; subst hb; exact ⟨T, hm⟩
    | vslice c j l k k' o' T hm _ _ _ => simp only [refsN, List.mem_singleton] at hb; subst hb; exact ⟨T, hm⟩
    | vnil c j k T _ hm _ => simp only [refsN, List.mem_singleton] at hb; subst hb; exact ⟨T, hm⟩
    | map c T hm => simp only [refsN, List.mem_singleton] at hb; subst hb; exact ⟨T, hm⟩
    | iface t a a' ha => exact ih _ _ ha b hb
    | agg xs xs' hx ex =>
      obtain ⟨ys, he, hl2⟩ := VRel.agg_iff.1 (.agg xs xs' hx ex)
      exact hl _ _ hl2 hb
    | tuple xs xs' hx ex =>
      obtain ⟨ys, he, hl2⟩ := VRel.tuple_iff.1 (.tuple xs xs' hx ex)
      exact hl _ _ hl2 hb
    | func fn fn' xs xs' ys ys' hf hx ex hy ey =>
      obtain ⟨fn2, xs2, ys2, he, hf2, hx2, hy2⟩ := VRel.func_iff.1 (.func fn fn' xs xs' ys ys' hf hx ex hy ey)
      simp only [refsN, List.mem_append] at hb
      rcases hb with hb | hb
      · exact hl _ _ hx2 hb
      · exact hl _ _ hy2 hb
    | _ => cases hb
theorem refsL_dom {μ : Inj} {l l' : List Value} (h : LRel μ l l') : ∀ b ∈ l.flatMap (refsN 4), ∃ T, μ b = some T := by
  intro b hb
  induction h with
  | nil => cases hb
  | cons h1 _ ih =>
    rw [List.flatMap_cons, List.mem_append] at hb
    rcases hb with hb | hb
    · exact refs_dom 4 _ _ h1 b hb
    · exact ih hb
theorem refsO2_vec {k : EK} {l : List (EK.C k)} {ro : Bool} {c : Nat} (h : c ∈ refsO2 (.vec k l ro)) : ∃ l' : List (EK.C [.tok]), (⟨k, l⟩ : (k : EK) × List (EK.C k)) = ⟨[.tok], l'⟩ ∧ c ∈ List.flatMap (refsN 4) l' := by
  unfold refsO2 at h
  split at h
  · rename_i heq; cases heq
  · rename_i l2 ro2 he
    cases he
    exact ⟨l2, rfl, h⟩
  · cases h
theorem reach2_ok {base : Env} {W0 W : World} {μ : Inj} {H : IHeap} (hH : HRel base W0 μ H W) {N : Nat} : ∀ (f : Nat) (todo seen : List Nat), (∀ b ∈ todo, ∃ T, μ b = some T) → (seen.Nodup ∧ ∀ b ∈ seen, N ≤ b ∧ ∃ T, μ b = some T) →
    (reach2 H N f todo seen).Nodup ∧ ∀ b ∈ reach2 H N f todo seen, N ≤ b ∧ ∃ T, μ b = some T := by
  intro f
  induction f with
  | zero => intro todo seen _ h; exact h
  | succ f ih =>
    intro todo seen ht hs
    unfold reach2
    split
    · exact hs
    · rename_i b r
      cases hc : (Nat.blt b N || seen.any (Nat.beq b))
      · simp only [cond_false]
        simp only [Bool.or_eq_false_iff] at hc
        obtain ⟨T, hT⟩ := ht b (by simp)
        have hNb : N ≤ b := by
          rcases Nat.lt_or_ge b N with h | h
          · have := Nat.ble_eq_true_of_le h
            rw [show Nat.ble (b + 1) N = Nat.blt b N from rfl, hc.1] at this; cases this
          · exact h
        split
        · rename_i o ho
          refine ih _ _ (fun c hc2 => ?_) ⟨?_, fun c hc2 => ?_⟩
          · rcases List.mem_append.1 hc2 with hc2 | hc2
            · cases o with
              | cells cs e ro =>
                obtain ⟨o', _, hr⟩ := hH.obj b _ ho T hT
                cases hr with
                | cells _ _ _ arr t lo hi he hcl hr hf => exact refsL_dom hcl c hc2
              | vec k l ro =>
                obtain ⟨l2, he, hc3⟩ := refsO2_vec hc2
                cases he
                obtain ⟨o', _, hr⟩ := hH.obj b _ ho T hT
                cases hr with
                | vec _ _ _ _ hc =>
                  rw [encL_tok] at hc
                  cases hc with
                  | cells _ _ _ arr t lo hi he hcl hr hf => exact refsL_dom hcl c hc3
                | vec0 _ _ _ _ _ _ => cases hc3
              | _ => simp [refsO2] at hc2
            · exact ht c (by simp [hc2])
          · rw [List.nodup_append]
            refine ⟨hs.1, by simp, ?_⟩
            intro x hx y hy
            simp only [List.mem_singleton] at hy
            subst hy
            rintro rfl
            have := List.any_eq_true.2 ⟨x, hx, Nat.beq_refl x⟩
            rw [hc.2] at this; cases this
          · rcases List.mem_append.1 hc2 with hc2 | hc2
            · exact hs.2 c hc2
            · simp only [List.mem_singleton] at hc2; subst hc2; exact ⟨hNb, T, hT⟩
        · exact ih _ _ (fun c hc2 => ht c (by simp [hc2])) hs
      · simp only [cond_true]
        exact ih _ _ (fun c hc2 => ht c (by simp [hc2])) hs
end Go.Ideal

namespace Go.Ideal
def packName (b nx i : Nat) : Nat := if i = 0 then b else nx + (i - 1)
def packRen (b nx n : Nat) (ext : List Nat := []) : Ren := fun i => if i < n then some (packName b nx i) else ext[i - n]?
def roIf (ro : Bool) (o : IObj) : IObj := if ro then asRo o else o
theorem roIf_rel {μ : Inj} {T : Tgt} {o : IObj} {o' : Obj} {ro : Bool} (h : ORel μ T o o') : ORel μ T (roIf ro o) o' := by
  cases ro
  · exact h
  · exact asRo_rel h
theorem roIf_void {ro : Bool} {o : IObj} {T : Tgt} : (roIf ro o).void T ↔ o.void T := by
  cases ro
  · exact Iff.rfl
  · exact asRo_void
theorem roIf_ro {ro : Bool} {o : IObj} (hp : o.packs = true) (h : o.ro = false) : (roIf ro o).ro = ro := by
  cases ro
  · exact h
  · cases o <;> first | rfl | cases hp
structure Opened (H : IHeap) (b : Nat) (ro : Bool) (objs : List IObj) (H' : IHeap) (ext : List Nat := []) : Prop where
  next : H'.next = H.next + (objs.length - 1)
  old : ∀ x, x ≠ b → x < H.next → H'.get x = H.get x
  top : ∀ x, H'.next ≤ x → H'.get x = none
  obj : ∀ (i : Nat) (o : IObj), objs[i]? = some o → ∃ o1, renO (packRen b H.next objs.length ext) (roIf ro o) = some o1 ∧ H'.get (packName b H.next i) = some o1

section
variable {base : Env} {W0 : World} {μ : Inj} {H : IHeap} {W : World}
theorem HRel.opened (h : HRel base W0 μ H W) {b : Nat} {s : Pk} {ro : Bool} {T : Tgt} (hb : H.get b = some (.abs (.pack s) ro)) (hm : μ b = some T) :
    ∃ objs, pkReps s objs ∧ ∀ H', Opened H b ro objs H' (pkExt s) → ∃ μ', HRel base W0 μ' H' W ∧ Evolve μ H μ' H' := by
  obtain ⟨φ, q⟩ := h.abs
  obtain ⟨hrep, hK⟩ := q.rep b _ ro T hb hm
  have hrep : RepP μ W s T (φ b) := hrep
  have hlt := h.lt hb
  generalize hFb : φ b = F at hrep
  cases hrep with
  | mk _ objs ts Fs _ _ hr hl hT hroot hobj hcell hbld hext hpack hdis hF =>
    refine ⟨objs, hr, fun H' hH => ?_⟩
    have h0 : 0 < objs.length := by
      rcases Nat.eq_zero_or_pos objs.length with h | h
      · rw [List.getElem?_eq_none (by omega)] at hT; cases hT
      · exact h
    let μ' : Inj := fun x => if H.next ≤ x ∧ x < H.next + (objs.length - 1) then ts[x - H.next + 1]? else μ x
    have mlow : ∀ x, x < H.next → μ' x = μ x := fun x hx => by show (if _ then _ else _) = _; rw [if_neg (by omega)]
    have mpk : ∀ i, i < objs.length → μ' (packName b H.next i) = ts[i]? := by
      intro i hi
      unfold packName
      by_cases e : i = 0
      · subst e
        rw [if_pos rfl, mlow b hlt, hm, hT]
      · rw [if_neg e]
        show (if _ then _ else _) = _
        rw [if_pos (by omega), show H.next + (i - 1) - H.next + 1 = i by omega]
    have mtop : ∀ x, H'.next ≤ x → μ' x = none := by
      intro x hx
      rw [hH.next] at hx
      show (if _ then _ else _) = _
      rw [if_neg (by omega)]
      exact (h.fresh x (by omega)).2
    have mle : μ.le μ' := by
      intro x X e
      rcases Nat.lt_or_ge x H.next with hx | hx
      · rw [mlow x hx]; exact e
      · rw [(h.fresh x hx).2] at e; cases e
    -- where an object of the new heap comes from
    have key : ∀ x o1, H'.get x = some o1 → (∃ i o, i < objs.length ∧ objs[i]? = some o ∧ x = packName b H.next i ∧ renO (packRen b H.next objs.length (pkExt s)) (roIf ro o) = some o1) ∨ (x ≠ b ∧ x < H.next ∧ H.get x = some o1) := by
      intro x o1 hx
      have pk : ∀ i, i < objs.length → x = packName b H.next i → ∃ i o, i < objs.length ∧ objs[i]? = some o ∧ x = packName b H.next i ∧ renO (packRen b H.next objs.length (pkExt s)) (roIf ro o) = some o1 := by
        intro i hi e
        obtain ⟨o2, r1, r2⟩ := hH.obj i _ (List.getElem?_eq_getElem hi)
        rw [← e, hx] at r2; cases r2
        exact ⟨i, _, hi, List.getElem?_eq_getElem hi, e, r1⟩
      by_cases e : x = b
      · exact .inl (pk 0 h0 (by unfold packName; rw [if_pos rfl]; exact e))
      · rcases Nat.lt_or_ge x H.next with hx2 | hx2
        · exact .inr ⟨e, hx2, by rw [← hH.old x e hx2]; exact hx⟩
        · rcases Nat.lt_or_ge x H'.next with hx3 | hx3
          · rw [hH.next] at hx3
            exact .inl (pk (x - H.next + 1) (by omega) (by unfold packName; rw [if_neg (by omega)]; omega))
          · rw [hH.top x hx3] at hx; cases hx
    have pinj : ∀ i j, i < objs.length → j < objs.length → packName b H.next i = packName b H.next j → i = j := by
      intro i j hi hj e
      unfold packName at e
      by_cases e1 : i = 0
      · by_cases e2 : j = 0
        · omega
        · rw [if_pos e1, if_neg e2] at e; omega
      · by_cases e2 : j = 0
        · rw [if_neg e1, if_pos e2] at e; omega
        · rw [if_neg e1, if_neg e2] at e; omega
    -- each object's own blocks
    have own : ∀ i o T', objs[i]? = some o → ts[i]? = some T' → (¬ o.void T' → Fs i T'.c) ∧ (∀ x, Fs i x → F x) := by
      intro i o T' ho ht
      have hi : i < objs.length := (List.getElem?_eq_some_iff.1 ho).1
      refine ⟨?_, fun x hx => (hF x).2 ⟨i, hi, hx⟩⟩
      cases hab : o.isAbs
      · exact fun hv => (hcell i o T' ho ht hab _).2 ⟨rfl, hv⟩
      · obtain ⟨a, r, rfl⟩ := isAbs_eq hab
        cases a with
        | bld t e l => exact fun _ => (BldRep.bnd (hbld i t e l r T' ho ht)).1
        | pack s' => exact fun _ => (RepP.bnd (hpack i s' r T' ho ht)).1
    have rep : ∀ i a r T', objs[i]? = some (.abs a r) → ts[i]? = some T' → RepG μ a T' (Fs i) W := by
      intro i a r T' ho ht
      cases a with
      | bld t e l => exact hbld i t e l r T' ho ht
      | pack s' => exact hpack i s' r T' ho ht
    have absOf : ∀ {o : IObj} {a : Abs} {r : Bool}, renO (packRen b H.next objs.length (pkExt s)) (roIf ro o) = some (.abs a r) → ∃ r0, o = .abs a r0 ∧ (r0 = false → r = ro) := by
      intro o a r e
      have e1 := ((renO_ro e).2.2 a r rfl).1
      cases ro
      · exact ⟨r, e1, fun h => h⟩
      · cases o <;> first | (cases e1; done) | skip
        rename_i a0 r0
        have e1 : IObj.abs a0 true = .abs a r := e1
        cases e1
        exact ⟨r0, rfl, fun _ => rfl⟩
    refine ⟨μ', ⟨?_, ?_, ?_, ?_, ?_, h.size, h.below, h.out, h.os, ?_, Inj.le_trans h.le mle, h.grow⟩, ⟨mle, by rw [hH.next]; omega, ?_⟩⟩
    · intro x o1 hx T' hT'
      rcases key x o1 hx with ⟨i, o, hi, ho, rfl, hr1⟩ | ⟨hxb, hxl, hx2⟩
      · rw [mpk i hi] at hT'
        obtain ⟨_, _, o', r1, r2⟩ := hobj i o T' ho hT'
        refine ⟨o', r1, renO_fwd (μ := gmap μ ts (pkExt s)) (fun p j X hp hX => ?_) hr1 (roIf_rel r2)⟩
        unfold packRen at hp
        split at hp
        · rename_i hpl
          cases hp
          rw [gmap_in (by omega)] at hX
          rw [mpk p hpl]; exact hX
        · rename_i hpl
          unfold gmap at hX
          rw [if_neg (by omega), hl, hp] at hX
          exact mle _ _ hX
      · rw [mlow x hxl] at hT'
        obtain ⟨o', r1, r2⟩ := h.obj x o1 hx2 T' hT'
        exact ⟨o', r1, r2.mono mle⟩
    · intro x o1 hx hro T' hT' hv
      rcases key x o1 hx with ⟨i, o, hi, ho, rfl, hr1⟩ | ⟨hxb, hxl, hx2⟩
      · rw [mpk i hi] at hT'
        obtain ⟨g1, g2, _⟩ := hobj i o T' ho hT'
        have e1 : ro = false := by rw [← roIf_ro (ro := ro) g2 g1, ← (renO_ro hr1).1]; exact hro
        obtain ⟨f1, f2⟩ := own i o T' ho hT'
        exact hK e1 _ (by rw [hFb]; exact f2 _ (f1 (fun hw => hv (((renO_void hr1 T').trans roIf_void).2 hw))))
      · rw [mlow x hxl] at hT'
        exact h.own x o1 hx2 hro T' hT' hv
    · intro x y o1 o2 hx hy T1 T2 h1 h2 v1 v2 hc
      rcases key x o1 hx with ⟨i, o, hi, ho, rfl, hr1⟩ | ⟨hxb, hxl, hx2⟩
      · rcases key y o2 hy with ⟨j, p, hj, hp, rfl, hr2⟩ | ⟨hyb, hyl, hy2⟩
        · rw [mpk i hi] at h1
          rw [mpk j hj] at h2
          have f1 := (own i o T1 ho h1).1 (fun hw => v1 (((renO_void hr1 T1).trans roIf_void).2 hw))
          have f2 := (own j p T2 hp h2).1 (fun hw => v2 (((renO_void hr2 T2).trans roIf_void).2 hw))
          rw [hc] at f1
          rw [hdis i j _ hi hj f1 f2]
        · rw [mpk i hi] at h1
          rw [mlow y hyl] at h2
          obtain ⟨f1, f2⟩ := own i o T1 ho h1
          have f1 := f1 (fun hw => v1 (((renO_void hr1 T1).trans roIf_void).2 hw))
          have := (q.far b _ ro T hb hm y o2 T2 hy2 h2 hyb v2).1
          rw [hFb, ← hc] at this
          exact absurd (f2 _ f1) this
      · rcases key y o2 hy with ⟨j, p, hj, hp, rfl, hr2⟩ | ⟨hyb, hyl, hy2⟩
        · rw [mpk j hj] at h2
          rw [mlow x hxl] at h1
          obtain ⟨f1, f2⟩ := own j p T2 hp h2
          have f1 := f1 (fun hw => v2 (((renO_void hr2 T2).trans roIf_void).2 hw))
          have := (q.far b _ ro T hb hm x o1 T1 hx2 h1 hxb v1).1
          rw [hFb, hc] at this
          exact absurd (f2 _ f1) this
        · rw [mlow x hxl] at h1
          rw [mlow y hyl] at h2
          exact h.inj x y o1 o2 hx2 hy2 T1 T2 h1 h2 v1 v2 hc
    · intro x hx
      exact ⟨hH.top x hx, mtop x hx⟩
    · intro x T' hT'
      have hx : H.next ≤ x ∧ x < H.next + (objs.length - 1) ∨ μ x = some T' := by
        by_cases c : H.next ≤ x ∧ x < H.next + (objs.length - 1)
        · exact .inl c
        · right
          have : (if H.next ≤ x ∧ x < H.next + (objs.length - 1) then ts[x - H.next + 1]? else μ x) = some T' := hT'
          rwa [if_neg c] at this
      rcases hx with hx | hx
      · have : (if H.next ≤ x ∧ x < H.next + (objs.length - 1) then ts[x - H.next + 1]? else μ x) = some T' := hT'
        rw [if_pos hx] at this
        have hi : x - H.next + 1 < objs.length := by omega
        obtain ⟨_, _, o', r1, _⟩ := hobj (x - H.next + 1) _ T' (List.getElem?_eq_getElem hi) this
        exact lt_of_heap r1
      · exact h.bound x T' hx
    · refine ⟨fun x => if x = b then Fs 0 else if H.next ≤ x then Fs (x - H.next + 1) else φ x, ?_, ?_⟩
      all_goals
        have hφ : ∀ i, i < objs.length → (if packName b H.next i = b then Fs 0 else if H.next ≤ packName b H.next i then Fs (packName b H.next i - H.next + 1) else φ (packName b H.next i)) = Fs i := by
          intro i hi
          unfold packName
          by_cases e : i = 0
          · subst e; simp
          · rw [if_neg e, if_neg (by omega), if_pos (by omega), show H.next + (i - 1) - H.next + 1 = i by omega]
        have hφ2 : ∀ x, x ≠ b → x < H.next → (if x = b then Fs 0 else if H.next ≤ x then Fs (x - H.next + 1) else φ x) = φ x := fun x e hx => by rw [if_neg e, if_neg (by omega)]
      · intro x a r T' hx hT'
        rcases key x _ hx with ⟨i, o, hi, ho, rfl, hr1⟩ | ⟨hxb, hxl, hx2⟩
        · simp only [hφ i hi]
          rw [mpk i hi] at hT'
          obtain ⟨r0, rfl, hr0⟩ := absOf hr1
          refine ⟨(rep i a r0 T' ho hT').mono mle, fun hr y hy => ?_⟩
          have g1 := (hobj i _ T' ho hT').1
          exact hK (by rw [← hr0 g1]; exact hr) y (by rw [hFb]; exact (own i _ T' ho hT').2 y hy)
        · simp only [hφ2 x hxb hxl]
          rw [mlow x hxl] at hT'
          obtain ⟨w1, w2⟩ := q.rep x a r T' hx2 hT'
          exact ⟨w1.mono mle, w2⟩
      · intro x a r T' hx hT' y o2 T2 hy hT2 hne hv2
        rcases key x _ hx with ⟨i, o, hi, ho, rfl, hr1⟩ | ⟨hxb, hxl, hx2⟩
        · rw [mpk i hi] at hT'
          simp only [hφ i hi]
          rcases key y o2 hy with ⟨j, p, hj, hp, rfl, hr2⟩ | ⟨hyb, hyl, hy2⟩
          · rw [mpk j hj] at hT2
            simp only [hφ j hj]
            have hij : i ≠ j := fun e => hne (by rw [e])
            exact ⟨fun e => hij (hdis i j _ hi hj e ((own j p T2 hp hT2).1 (fun hw => hv2 (((renO_void hr2 T2).trans roIf_void).2 hw)))), fun _ z hz hz2 => hij (hdis i j z hi hj hz hz2)⟩
          · rw [mlow y hyl] at hT2
            simp only [hφ2 y hyb hyl]
            have hf := q.far b _ ro T hb hm y o2 T2 hy2 hT2 hyb hv2
            rw [hFb] at hf
            exact ⟨fun e => hf.1 ((own i o T' ho hT').2 _ e), fun hab z hz hz2 => hf.2 hab z ((own i o T' ho hT').2 _ hz) hz2⟩
        · rw [mlow x hxl] at hT'
          simp only [hφ2 x hxb hxl]
          rcases key y o2 hy with ⟨j, p, hj, hp, rfl, hr2⟩ | ⟨hyb, hyl, hy2⟩
          · rw [mpk j hj] at hT2
            simp only [hφ j hj]
            have hf := (q.far x a r T' hx2 hT' b _ T hb hm (Ne.symm hxb) id).2 rfl
            rw [hFb] at hf
            exact ⟨fun e => hf _ e ((own j p T2 hp hT2).2 _ ((own j p T2 hp hT2).1 (fun hw => hv2 (((renO_void hr2 T2).trans roIf_void).2 hw)))), fun _ z hz hz2 => hf z hz ((own j p T2 hp hT2).2 z hz2)⟩
          · rw [mlow y hyl] at hT2
            simp only [hφ2 y hyb hyl]
            exact q.far x a r T' hx2 hT' y o2 T2 hy2 hT2 hne hv2
    · intro x hx hn
      rw [mlow x hx]
      refine ⟨hn, ?_⟩
      have : x ≠ b := by rintro rfl; rw [hm] at hn; cases hn
      exact hH.old x this hx
end
end Go.Ideal

namespace Go.Ideal
def gren (bs ext : List Nat) : Ren := fun i => if i < bs.length then bs[i]? else ext[i - bs.length]?
theorem gren_nil (bs : List Nat) : gren bs [] = fun i => bs[i]? := by
  funext i
  unfold gren
  split
  · rfl
  · rename_i h
    rw [List.getElem?_eq_none (l := bs) (by omega)]; rfl
open Classical in
structure Shut (H : IHeap) (s : Pk) (bs : List Nat) (H' : IHeap) : Prop where
  next : H'.next = H.next
  root : ∀ b, bs[0]? = some b → H'.get b = some (.abs (.pack s) false)
  rest : ∀ i b, 0 < i → bs[i]? = some b → H'.get b = none
  old : ∀ x, x ∉ bs → H'.get x = H.get x
section
variable {base : Env} {W0 : World} {μ : Inj} {H : IHeap} {W : World}
theorem HRel.shut (h : HRel base W0 μ H W) {s : Pk} {objs : List IObj} {bs : List Nat} (hr : pkReps s objs) (hnd : bs.Nodup) (hlen : bs.length = objs.length) (hne : objs ≠ [])
    (hmap : ∀ b ∈ bs, ∃ T, μ b = some T) (hobj : ∀ (i b : Nat) (o : IObj), bs[i]? = some b → objs[i]? = some o → ∃ o1, H.get b = some o1 ∧ o1.ro = false ∧ o1.packs = true ∧ renO (gren bs (pkExt s)) o = some o1)
    {H' : IHeap} (hS : Shut H s bs H') (hroot : ∀ o T, objs[0]? = some o → ¬ o.void T) : HRel base W0 μ H' W ∧ Evolve μ H μ H' := by
  obtain ⟨φ, q⟩ := h.abs
  have h0 : 0 < objs.length := List.length_pos_iff.2 hne
  -- where they lie
  let tg : Nat → Tgt := fun b => (μ b).getD ⟨0, 0, 0, 0⟩
  have htg : ∀ b ∈ bs, μ b = some (tg b) := by
    intro b hb
    obtain ⟨T, hT⟩ := hmap b hb
    show μ b = some ((μ b).getD _)
    rw [hT]; rfl
  let ts : List Tgt := bs.map tg
  have hts : ∀ (i b : Nat), bs[i]? = some b → ts[i]? = some (tg b) := fun i b hb => by show (bs.map tg)[i]? = _; rw [List.getElem?_map, hb]; rfl
  have tsl : ts.length = objs.length := by show (bs.map tg).length = _; rw [List.length_map, hlen]
  have bat : ∀ (i : Nat), i < objs.length → ∃ b, bs[i]? = some b := fun i hi => ⟨_, List.getElem?_eq_getElem (by omega)⟩
  have mem : ∀ {i b : Nat}, bs[i]? = some b → b ∈ bs := fun hb => List.mem_of_getElem? hb
  have tsb : ∀ (i : Nat) (T' : Tgt), ts[i]? = some T' → ∃ b, bs[i]? = some b ∧ T' = tg b ∧ μ b = some T' := by
    intro i T' ht
    have ht : (bs.map tg)[i]? = some T' := ht
    rw [List.getElem?_map] at ht
    cases hb : bs[i]? with
    | none => rw [hb] at ht; cases ht
    | some b => rw [hb] at ht; cases ht; exact ⟨b, rfl, rfl, htg b (mem hb)⟩
  have uniq : ∀ (i j b : Nat), bs[i]? = some b → bs[j]? = some b → i = j := by
    intro i j b hi hj
    obtain ⟨hi1, hi2⟩ := List.getElem?_eq_some_iff.1 hi
    obtain ⟨hj1, hj2⟩ := List.getElem?_eq_some_iff.1 hj
    have hp := List.pairwise_iff_getElem.1 hnd
    rcases Nat.lt_trichotomy i j with hh | hh | hh
    · exact absurd (hi2.trans hj2.symm) (hp i j hi1 hj1 hh)
    · exact hh
    · exact absurd (hj2.trans hi2.symm) (hp j i hj1 hi1 hh)
  -- their own blocks
  let Fs : Nat → Nat → Prop := fun i x => ∃ b o, bs[i]? = some b ∧ H.get b = some o ∧ ((o.isAbs = true ∧ φ b x) ∨ (o.isAbs = false ∧ x = (tg b).c ∧ ¬ o.void (tg b)))
  have oab : ∀ (i b : Nat) (o : IObj), bs[i]? = some b → objs[i]? = some o → ∃ o1, H.get b = some o1 ∧ o1.ro = false ∧ o1.packs = true ∧ renO (gren bs (pkExt s)) o = some o1 ∧ o.isAbs = o1.isAbs ∧ o.ro = false := by
    intro i b o hb ho
    obtain ⟨o1, r1, r2, r3, r4⟩ := hobj i b o hb ho
    obtain ⟨e1, e2, e3⟩ := renO_ro r4
    exact ⟨o1, r1, r2, r3, r4, e2.symm, by rw [← e1]; exact r2⟩
  have Fs_cell : ∀ (i b : Nat) (o1 : IObj), bs[i]? = some b → H.get b = some o1 → o1.isAbs = false → ∀ x, Fs i x ↔ (x = (tg b).c ∧ ¬ o1.void (tg b)) := by
    intro i b o1 hb hg hab x
    constructor
    · rintro ⟨b2, o2, g1, g2, g3⟩
      rw [hb] at g1; cases g1
      rw [hg] at g2; cases g2
      rcases g3 with ⟨g3, _⟩ | ⟨_, g3⟩
      · rw [hab] at g3; cases g3
      · exact g3
    · intro e; exact ⟨b, o1, hb, hg, .inr ⟨hab, e⟩⟩
  have Fs_abs : ∀ (i b : Nat) (o1 : IObj), bs[i]? = some b → H.get b = some o1 → o1.isAbs = true → ∀ x, Fs i x ↔ φ b x := by
    intro i b o1 hb hg hab x
    constructor
    · rintro ⟨b2, o2, g1, g2, g3⟩
      rw [hb] at g1; cases g1
      rw [hg] at g2; cases g2
      rcases g3 with ⟨_, g3⟩ | ⟨g3, _⟩
      · exact g3
      · rw [hab] at g3; cases g3
    · intro e; exact ⟨b, o1, hb, hg, .inl ⟨hab, e⟩⟩
  -- two things do not share
  have apart : ∀ b1 o1 b2 o2, b1 ≠ b2 → H.get b1 = some o1 → H.get b2 = some o2 → ∀ T1 T2, μ b1 = some T1 → μ b2 = some T2 → ∀ x, ((o1.isAbs = true ∧ φ b1 x) ∨ (o1.isAbs = false ∧ x = T1.c ∧ ¬ o1.void T1)) → ((o2.isAbs = true ∧ φ b2 x) ∨ (o2.isAbs = false ∧ x = T2.c ∧ ¬ o2.void T2)) → False := by
    intro b1 o1 b2 o2 hne12 g1 g2 T1 T2 m1 m2 x p1 p2
    rcases p1 with ⟨a1, p1⟩ | ⟨a1, p1, v1⟩
    · obtain ⟨a, r, rfl⟩ := isAbs_eq a1
      rcases p2 with ⟨a2, p2⟩ | ⟨a2, p2, v2⟩
      · exact (q.far b1 a r T1 g1 m1 b2 o2 T2 g2 m2 (Ne.symm hne12) (abs_solid a2 T2)).2 a2 x p1 p2
      · rw [p2] at p1; exact (q.far b1 a r T1 g1 m1 b2 o2 T2 g2 m2 (Ne.symm hne12) v2).1 p1
    · rcases p2 with ⟨a2, p2⟩ | ⟨a2, p2, v2⟩
      · obtain ⟨a, r, rfl⟩ := isAbs_eq a2
        have hf := q.far b2 a r T2 g2 m2 b1 o1 T1 g1 m1 hne12 v1
        rw [p1] at p2; exact hf.1 p2
      · exact hne12 (h.inj b1 b2 o1 o2 g1 g2 T1 T2 m1 m2 v1 v2 (by rw [← p1, ← p2]))
  have root : ∀ (i b : Nat) (o1 : IObj), bs[i]? = some b → H.get b = some o1 → ¬ o1.void (tg b) → Fs i (tg b).c := by
    intro i b o1 hb hg hv
    cases hab : o1.isAbs
    · exact (Fs_cell i b o1 hb hg hab _).2 ⟨rfl, hv⟩
    · obtain ⟨a, r, rfl⟩ := isAbs_eq hab
      exact (Fs_abs i b _ hb hg rfl _).2 (RepG.bnd _ _ _ _ (q.rep b a r _ hg (htg b (mem hb))).1).1
  obtain ⟨b0, hb0⟩ := bat 0 h0
  let F : Nat → Prop := fun x => ∃ i, i < objs.length ∧ Fs i x
  have hrep : RepP μ W s (tg b0) F := by
    refine .mk s objs ts Fs _ F hr tsl (hts 0 b0 hb0) (fun o ho => hroot o _ ho) ?_ ?_ ?_ ?_ ?_ ?_ (fun x => Iff.rfl)
    · intro i o T' ho ht
      obtain ⟨b, hb, rfl, hm⟩ := tsb i T' ht
      obtain ⟨o1, r1, r2, r3, r4, r5, r6⟩ := oab i b o hb ho
      obtain ⟨o', s1, s2⟩ := h.obj b o1 r1 _ hm
      refine ⟨r6, ?_, o', s1, renO_bwd (ν := μ) (fun p j X hp hX => ?_) r4 s2⟩
      · cases o1 <;> cases o <;> first | rfl | (simp [renO] at r4; done) | (cases r3; done) | skip
        all_goals (simp [renO] at r4)
      · unfold gren at hp
        split at hp
        · rename_i hpl
          rw [gmap_in (by omega), hts p j hp]
          have := htg j (mem hp)
          rw [hX] at this; exact this.symm
        · rename_i hpl
          unfold gmap
          rw [if_neg (by omega), tsl, ← hlen, hp]
          exact hX
    · intro i o T' ho ht hab x
      obtain ⟨b, hb, rfl, hm⟩ := tsb i T' ht
      obtain ⟨o1, r1, r2, r3, r4, r5, r6⟩ := oab i b o hb ho
      rw [Fs_cell i b o1 hb r1 (by rw [← r5]; exact hab) x]
      exact and_congr_right fun _ => not_congr (renO_void r4 _)
    · intro i t e l r T' ho ht
      obtain ⟨b, hb, rfl, hm⟩ := tsb i T' ht
      obtain ⟨o1, r1, r2, r3, r4, r5, r6⟩ := oab i b _ hb ho
      obtain ⟨rfl, _⟩ := abs_ren r4
      have h1 := (q.rep b _ r _ r1 hm).1
      have h2 : Fs i = φ b := funext fun x => propext (Fs_abs i b _ hb r1 rfl x)
      rw [h2]; exact h1
    · intro i s' r ho
      obtain ⟨b, hb⟩ := bat i (List.getElem?_eq_some_iff.1 ho).1
      obtain ⟨o1, r1, r2, r3, r4, r5, r6⟩ := oab i b _ hb ho
      exact (abs_ren r4).2
    · intro i s' r T' ho ht
      obtain ⟨b, hb, rfl, hm⟩ := tsb i T' ht
      obtain ⟨o1, r1, r2, r3, r4, r5, r6⟩ := oab i b _ hb ho
      obtain ⟨rfl, _⟩ := abs_ren r4
      have h1 := (q.rep b _ r _ r1 hm).1
      have h2 : Fs i = φ b := funext fun x => propext (Fs_abs i b _ hb r1 rfl x)
      rw [h2]; exact h1
    · rintro i j x hi hj ⟨b1, o1, g1, g2, g3⟩ ⟨b2, o2, k1, k2, k3⟩
      rcases Nat.decEq i j with hij | hij
      · exfalso
        have hne12 : b1 ≠ b2 := by rintro rfl; exact hij (uniq i j b1 g1 k1)
        exact apart b1 o1 b2 o2 hne12 g2 k2 _ _ (htg b1 (mem g1)) (htg b2 (mem k1)) x g3 k3
      · exact hij
  have hb0m := htg b0 (mem hb0)
  obtain ⟨o00, ho00⟩ : ∃ o, objs[0]? = some o := ⟨_, List.getElem?_eq_getElem h0⟩
  obtain ⟨o01, hg0, hro0, _, hr01, _, _⟩ := oab 0 b0 o00 hb0 ho00
  have hv01 : ∀ T, ¬ o01.void T := fun T hw => hroot o00 T ho00 ((renO_void hr01 T).1 hw)
  have key : ∀ x o1, H'.get x = some o1 → (x = b0 ∧ o1 = .abs (.pack s) false) ∨ (x ∉ bs ∧ H.get x = some o1) := by
    intro x o1 hx
    by_cases hxb : x ∈ bs
    · obtain ⟨i, hi, e⟩ := List.getElem_of_mem hxb
      have hi' : bs[i]? = some x := by rw [List.getElem?_eq_getElem hi, e]
      by_cases e0 : i = 0
      · subst e0
        rw [hb0] at hi'; cases hi'
        rw [hS.root b0 hb0] at hx; cases hx
        exact .inl ⟨rfl, rfl⟩
      · rw [hS.rest i x (by omega) hi'] at hx; cases hx
    · exact .inr ⟨hxb, by rw [← hS.old x hxb]; exact hx⟩
  have Fown : ∀ x, F x → ¬ base.K x := by
    rintro x ⟨i, hi, b, o1, g1, g2, g3⟩
    obtain ⟨o, ho⟩ : ∃ o, objs[i]? = some o := ⟨_, List.getElem?_eq_getElem hi⟩
    obtain ⟨o2, r1, r2, r3, r4, r5, r6⟩ := oab i b o g1 ho
    rw [g2] at r1; cases r1
    rcases g3 with ⟨a, g3⟩ | ⟨a, g3, gv⟩
    · obtain ⟨a', r, rfl⟩ := isAbs_eq a
      exact (q.rep b a' r _ g2 (htg b (mem g1))).2 r2 x g3
    · rw [g3]; exact h.own b o1 g2 r2 _ (htg b (mem g1)) gv
  have Fout : ∀ x, F x → ∀ y o2 T2, y ∉ bs → H.get y = some o2 → μ y = some T2 → ((o2.isAbs = true ∧ φ y x) ∨ (o2.isAbs = false ∧ x = T2.c ∧ ¬ o2.void T2)) → False := by
    rintro x ⟨i, hi, b, o1, g1, g2, g3⟩ y o2 T2 hy hg hm hp
    exact apart b o1 y o2 (by rintro rfl; exact hy (mem g1)) g2 hg _ _ (htg b (mem g1)) hm x g3 hp
  have hroot2 : F (tg b0).c := ⟨0, h0, root 0 b0 o01 hb0 hg0 (hv01 _)⟩
  have cOf : ∀ y o2 T2, H.get y = some o2 → μ y = some T2 → ¬ o2.void T2 → ((o2.isAbs = true ∧ φ y T2.c) ∨ (o2.isAbs = false ∧ T2.c = T2.c ∧ ¬ o2.void T2)) := by
    intro y o2 T2 hg hm hv
    cases hab : o2.isAbs
    · exact .inr ⟨rfl, rfl, hv⟩
    · obtain ⟨a, r, rfl⟩ := isAbs_eq hab
      exact .inl ⟨rfl, (RepG.bnd _ _ _ _ (q.rep y a r T2 hg hm).1).1⟩
  refine ⟨⟨?_, ?_, ?_, ?_, h.bound, h.size, h.below, h.out, h.os, ?_, h.le, h.grow⟩, ⟨Inj.le_refl _, by rw [hS.next]; exact Nat.le_refl _, ?_⟩⟩
  · intro x o1 hx T' hT'
    rcases key x o1 hx with ⟨rfl, rfl⟩ | ⟨hxb, hx2⟩
    · obtain ⟨o', r1, _⟩ := h.obj _ _ hg0 T' hT'
      exact ⟨o', r1, .abs T' _ _ _⟩
    · exact h.obj x o1 hx2 T' hT'
  · intro x o1 hx hro T' hT' hv
    rcases key x o1 hx with ⟨rfl, rfl⟩ | ⟨hxb, hx2⟩
    · exact h.own _ _ hg0 hro0 T' hT' (hv01 _)
    · exact h.own x o1 hx2 hro T' hT' hv
  · intro x y o1 o2 hx hy T1 T2 h1 h2 v1 v2 hc
    rcases key x o1 hx with ⟨rfl, rfl⟩ | ⟨hxb, hx2⟩
    · rcases key y o2 hy with ⟨rfl, rfl⟩ | ⟨hyb, hy2⟩
      · rfl
      · exact h.inj _ y _ o2 hg0 hy2 T1 T2 h1 h2 (hv01 _) v2 hc
    · rcases key y o2 hy with ⟨rfl, rfl⟩ | ⟨hyb, hy2⟩
      · exact h.inj x _ o1 _ hx2 hg0 T1 T2 h1 h2 v1 (hv01 _) hc
      · exact h.inj x y o1 o2 hx2 hy2 T1 T2 h1 h2 v1 v2 hc
  · intro x hx
    rw [hS.next] at hx
    refine ⟨?_, (h.fresh x hx).2⟩
    have : x ∉ bs := fun hm => by
      have := htg x hm
      rw [(h.fresh x hx).2] at this; cases this
    rw [hS.old x this]; exact (h.fresh x hx).1
  · refine ⟨fun x => if x = b0 then F else φ x, ?_, ?_⟩
    · intro x a r T' hx hT'
      rcases key x _ hx with ⟨rfl, e⟩ | ⟨hxb, hx2⟩
      · cases e
        rw [hb0m] at hT'; cases hT'
        simp only [if_true]
        exact ⟨hrep, fun _ => Fown⟩
      · have : x ≠ b0 := by rintro rfl; exact hxb (mem hb0)
        simp only [if_neg this]
        exact q.rep x a r T' hx2 hT'
    · intro x a r T' hx hT' y o2 T2 hy hT2 hne2 hv2
      rcases key x _ hx with ⟨rfl, e⟩ | ⟨hxb, hx2⟩
      · cases e
        rcases key y o2 hy with ⟨rfl, _⟩ | ⟨hyb, hy2⟩
        · exact absurd rfl hne2
        · simp only [if_true, if_neg hne2]
          exact ⟨fun e => Fout _ e y o2 T2 hyb hy2 hT2 (cOf y o2 T2 hy2 hT2 hv2), fun hab z hz hz2 => Fout z hz y o2 T2 hyb hy2 hT2 (.inl ⟨hab, hz2⟩)⟩
      · have hxn : x ≠ b0 := by rintro rfl; exact hxb (mem hb0)
        rcases key y o2 hy with ⟨rfl, e⟩ | ⟨hyb, hy2⟩
        · rw [hb0m] at hT2; cases hT2
          simp only [if_true, if_neg hxn]
          exact ⟨fun e => Fout _ hroot2 x _ T' hxb hx2 hT' (.inl ⟨rfl, e⟩), fun _ z hz hz2 => Fout z hz2 x _ T' hxb hx2 hT' (.inl ⟨rfl, hz⟩)⟩
        · have hyn : y ≠ b0 := by rintro rfl; exact hyb (mem hb0)
          simp only [if_neg hxn, if_neg hyn]
          exact q.far x a r T' hx2 hT' y o2 T2 hy2 hT2 hne2 hv2
  · intro x hx hn
    refine ⟨hn, hS.old x fun hm => ?_⟩
    have := htg x hm
    rw [hn] at this; cases this
end
end Go.Ideal

namespace Go.Ideal
theorem ext_low {laid : List (Nat × List Value)} {N : Nat} {bs : List Nat} {nx k b : Nat} (h : b < N) : extOut laid N bs nx k b = lowOf laid N b := outOf_lt h
theorem ext_old {laid : List (Nat × List Value)} {N : Nat} {bs : List Nat} {nx k b : Nat} (h : N ≤ b) (h2 : b < N + bs.length) : extOut laid N bs nx k b = bs[b - N]? := by
  unfold extOut
  rw [outOf_ge h, List.getElem?_append_left (by omega)]
theorem ext_new {laid : List (Nat × List Value)} {N : Nat} {bs : List Nat} {nx k b : Nat} (h : N + bs.length ≤ b) (h2 : b < N + bs.length + k) : extOut laid N bs nx k b = some (nx + (b - (N + bs.length))) := by
  unfold extOut
  rw [outOf_ge (by omega), List.getElem?_append_right (by omega), List.getElem?_map, List.getElem?_range (by omega)]
  simp only [Option.map_some, Option.some.injEq]
  omega

theorem iok_footD {P : Program} {laid : List (Nat × List Value)} {fs : List (FuncId × IFun)} (hfs : AllOk P laid fs) (hm : P.follows .mixedOrders = true) {f : FuncId} {n N : Nat} (he : entry P f = some (n, pcOf P f [])) (hN : (laid.all fun p => Nat.blt p.1 N) = true)
    {muts : List Bool} {G : List Value → List IObj → GT} (hG : ∀ argsc objs x, (G argsc objs).run = some x → (∀ (j : Nat) (o : IObj), objs[j]? = some o → mutAt muts j = true → o.ro = false) →
      argsc.length ≤ n ∧ EndsD (ctxI P laid fs) (N + objs.length) (fun b => N ≤ b ∧ b < N + objs.length) f (fun v Hf => TMatch laid N objs.length muts x v Hf) (startC f (fillTmps 0 argsc .leaf) n (pcOf P f []) (putL ⟨.leaf, N⟩ (viewL muts 0 objs)))) :
    IOk P laid f (footF laid N muts G) := by
  refine ⟨⟨n, _, he⟩, ?_⟩
  intro base W0 μ H W args args' v H' hW hH hl ha hF
  unfold footF at hF
  generalize hbs : reach2 H N 200 (args.flatMap (refsN 4)) [] = bs at hF
  have hreach := reach2_ok hH (N := N) 200 (args.flatMap (refsN 4)) [] (refsL_dom ha) ⟨List.nodup_nil, fun b hb => by cases hb⟩
  rw [hbs] at hreach
  obtain ⟨hnd, hbs2⟩ := hreach
  split at hF
  rotate_left
  · cases hF
  rename_i argsc objs h1 h2
  cases hmu : mutsOk muts H 0 bs
  · simp only [hmu, cond_false] at hF; cases hF
  simp only [hmu, cond_true] at hF
  split at hF
  rotate_left
  · cases hF
  rename_i x hx
  unfold footEnd at hF
  split at hF
  rotate_left
  · cases hF
  rename_i va Hb e1 e2
  split at hF
  rotate_left
  · cases hF
  rename_i H2 e3
  cases hF
  obtain ⟨ol, oget⟩ := objL_get h2
  obtain ⟨n1, n2, n3, n4⟩ := newL_get e3
  obtain ⟨b1, b2, b3, b4⟩ := backL_get e2 hnd
  have hbsAt : ∀ (j b : Nat), bs[j]? = some b → N ≤ b ∧ ∃ T, μ b = some T := fun j b hb => hbs2 b (List.mem_of_getElem? hb)
  have hro : ∀ (j : Nat) (o : IObj), objs[j]? = some o → mutAt muts j = true → o.ro = false := by
    intro j o ho hmj
    have hj : j < bs.length := by
      rcases Nat.lt_or_ge j objs.length with h | h
      · omega
      · rw [List.getElem?_eq_none h] at ho; cases ho
    obtain ⟨p, p1, q1, q2, q3⟩ := oget j bs[j] (List.getElem?_eq_getElem hj)
    obtain ⟨p', r1, r2⟩ := mutsOk_get hmu j bs[j] (List.getElem?_eq_getElem hj) (by rw [Nat.zero_add]; exact hmj)
    rw [q1] at r1; cases r1
    rw [ho] at q3; cases q3
    rw [(renO_ro q2).1]; exact r2
  obtain ⟨g1, g2⟩ := hG argsc objs x hx hro
  have hout : ∀ b i, outOf laid N bs b = some i → (b < N ∧ laid.any (fun p => Nat.beq b p.1) = true ∧ i = b) ∨ (N ≤ b ∧ bs[b - N]? = some i) := by
    intro b i hb
    rcases Nat.lt_or_ge b N with h | h
    · rw [outOf_lt h] at hb
      obtain ⟨rfl, _, h3⟩ := lowOf_eq hb
      exact .inl ⟨h, h3, rfl⟩
    · rw [outOf_ge h] at hb; exact .inr ⟨h, hb⟩
  have hdomb : ∀ b i, outOf laid N bs b = some i → ∃ T, μ i = some T := by
    intro b i hb
    rcases hout b i hb with ⟨_, h4, rfl⟩ | ⟨_, h4⟩
    · obtain ⟨T, h3, _⟩ := hl i h4; exact ⟨T, h3⟩
    · exact (hbsAt _ _ h4).2
  have hinj : ∀ b1 b2 i, outOf laid N bs b1 = some i → outOf laid N bs b2 = some i → b1 = b2 := by
    intro c1 c2 i q1 q2
    rcases hout c1 i q1 with ⟨a1, _, a3⟩ | ⟨a1, a2⟩ <;> rcases hout c2 i q2 with ⟨d1, _, d3⟩ | ⟨d1, d2⟩
    · omega
    · have := (hbsAt _ _ d2).1; omega
    · have := (hbsAt _ _ a2).1; omega
    · have := nodup_inj hnd a2 d2; omega
  have hiN : ∀ b i, outOf laid N bs b = some i → i < H.next := fun b i hb => let ⟨_, hT⟩ := hdomb b i hb; hH.lt_map hT
  have hHn : (putL ⟨.leaf, N⟩ (viewL muts 0 objs)).next = N + bs.length := by rw [putL_next, viewL_length, ol]
  have hlt : ∀ b i, outOf laid N bs b = some i → b < (putL ⟨.leaf, N⟩ (viewL muts 0 objs)).next := by
    intro b i hb
    rw [hHn]
    rcases hout b i hb with ⟨h4, _, _⟩ | ⟨h4, h5⟩
    · omega
    · have : b - N < bs.length := by
        rcases Nat.lt_or_ge (b - N) bs.length with h | h
        · exact h
        · rw [List.getElem?_eq_none h] at h5; cases h5
      omega
  have hHg : ∀ b o, (putL ⟨.leaf, N⟩ (viewL muts 0 objs)).get b = some o → N ≤ b ∧ ∃ o0, objs[b - N]? = some o0 ∧ o = (bif mutAt muts (b - N) then o0 else asRo o0) := by
    intro b o hb
    rw [putL_get] at hb
    simp only at hb
    by_cases h4 : b < N
    · rw [if_pos h4] at hb; cases hb
    · rw [if_neg h4, viewL_get, Nat.zero_add] at hb
      cases hq : objs[b - N]? with
      | none => rw [hq] at hb; cases hb
      | some o0 => rw [hq] at hb; simp only [Option.map_some, Option.some.injEq] at hb; exact ⟨by omega, o0, rfl, hb.symm⟩
  have hroV : ∀ b o, (putL ⟨.leaf, N⟩ (viewL muts 0 objs)).get b = some o → o.ro = false → mutAt muts (b - N) = true := by
    intro b o hb hr
    obtain ⟨h4, o0, h5, rfl⟩ := hHg b o hb
    cases hmm : mutAt muts (b - N)
    · rw [hmm] at hr
      simp only [cond_false] at hr
      have hj : b - N < bs.length := by
        rcases Nat.lt_or_ge (b - N) objs.length with h | h
        · omega
        · rw [List.getElem?_eq_none h] at h5; cases h5
      obtain ⟨p, p1, q1, q2, q3⟩ := oget (b - N) _ (List.getElem?_eq_getElem hj)
      rw [h5] at q3; cases q3
      have := (renO_asRo (renO_inv (fun _ _ h => in_out h) q2)).2
      rw [hr] at this; cases this
    · rfl
  refine lift3 (X := ctxI P laid fs) (fun b W0 hW => hfs.intr b W0 hW) (planOk_of hm rfl) hW hH hl he (Hc := putL ⟨.leaf, N⟩ (viewL muts 0 objs)) (argsc := argsc) (ρ := outOf laid N bs) g1 (renL_inv (ren_inv (fun _ _ h => in_out h) 6) _ _ h1) ha hlt hdomb hinj
    (by rw [n1, b1]; omega) (fun g hg => ?_) (fun b o hb => ?_) (fun i hi hno => ?_) (fun i hi => ?_) ?_
  · have hg : laid.any (fun p => Nat.beq g p.1) = true := hg
    have hgN : g < N := by
      obtain ⟨p, hp1, hp2⟩ := List.any_eq_true.1 hg
      have := List.all_eq_true.1 hN p hp1
      rw [Nat.eq_of_beq_eq_true hp2]; exact Nat.le_of_ble_eq_true this
    rw [outOf_lt hgN]
    unfold lowOf
    rw [show Nat.blt g N = true from Nat.ble_eq_true_of_le hgN, hg]; rfl
  · obtain ⟨h4, o0, h5, rfl⟩ := hHg b o hb
    have hj : b - N < bs.length := by
      rcases Nat.lt_or_ge (b - N) objs.length with h | h
      · omega
      · rw [List.getElem?_eq_none h] at h5; cases h5
    obtain ⟨p, p1, q1, q2, q3⟩ := oget (b - N) _ (List.getElem?_eq_getElem hj)
    rw [h5] at q3; cases q3
    have hinv := renO_inv (τ := outOf laid N bs) (fun _ _ h => in_out h) q2
    refine ⟨bs[b - N], p, by rw [outOf_ge h4]; exact List.getElem?_eq_getElem hj, q1, ?_⟩
    cases hmm : mutAt muts (b - N)
    · exact .inr ⟨(renO_asRo hinv).2, (renO_asRo hinv).1⟩
    · exact .inl hinv
  · rw [n2 i (by rw [b1]; exact hi)]
    by_cases hi2 : i ∈ bs
    · obtain ⟨j, hj, hje⟩ := List.getElem_of_mem hi2
      have hjb : bs[j]? = some i := by rw [List.getElem?_eq_getElem hj, hje]
      refine b3 j i hjb ?_
      cases hmm : mutAt muts (0 + j)
      · rfl
      · exfalso
        rw [Nat.zero_add] at hmm
        obtain ⟨p, p1, q1, q2, q3⟩ := oget j i hjb
        have hg : (putL ⟨.leaf, N⟩ (viewL muts 0 objs)).get (N + j) = some p1 := by
          rw [putL_get]
          simp only
          rw [if_neg (by omega), viewL_get, Nat.zero_add, show N + j - N = j by omega, q3]
          simp only [Option.map_some, hmm, cond_true]
        exact hno (N + j) p1 hg (hro j p1 q3 hmm) (by rw [outOf_ge (by omega), show N + j - N = j by omega]; exact hjb)
    · exact b2 i hi2
  · rw [n1, b1] at hi
    rw [n4 i (by rw [b1]; exact hi)]
    have hge : H.next ≤ i := by omega
    have hnb : i ∉ bs := by
      intro hb
      obtain ⟨_, T, hT⟩ := hbs2 i hb
      have := hH.lt_map hT; omega
    rw [b2 i hnb]
    exact (hH.fresh i hge).1
  · rw [hHn, ← ol]
    refine (g2.mono fun vc Hf ⟨ns, m1, m2, m3, m4, m5, m6⟩ => ?_).sub fun b hb => ⟨bs[b - N]'(by omega), by rw [outOf_ge hb.1]; exact List.getElem?_eq_getElem _⟩
    have hcomp : ∀ c r, TMatch.runOf laid N objs.length ns c = some r → (if r < N + objs.length then outOf laid N bs r else (posOf r ns).map (H.next + ·)) = extOut laid N bs H.next x.news.length c := by
      intro c r hc
      unfold TMatch.runOf at hc
      by_cases c1 : c < N
      · rw [if_pos c1] at hc
        obtain ⟨rfl, _, _⟩ := lowOf_eq hc
        rw [if_pos (by omega), outOf_lt c1, ext_low c1]
      · rw [if_neg c1] at hc
        by_cases c2 : c < N + objs.length
        · rw [if_pos c2] at hc
          cases hc
          rw [if_pos c2, outOf_ge (by omega), ext_old (by omega) (by omega)]
        · rw [if_neg c2] at hc
          have hj : c - (N + objs.length) < ns.length := by
            rcases Nat.lt_or_ge (c - (N + objs.length)) ns.length with h | h
            · exact h
            · rw [List.getElem?_eq_none h] at hc; cases hc
          have hge := m2 r (List.mem_of_getElem? hc)
          rw [if_neg (by omega), posOf_at m1 hc, ext_new (by omega) (by omega), ol]; rfl
    refine ⟨fun b => if b < N + objs.length then outOf laid N bs b else (posOf b ns).map (H.next + ·), ?_, ?_, ?_, ?_, ?_⟩
    · intro c1 c2 i q1 q2
      by_cases d1 : c1 < N + objs.length <;> by_cases d2 : c2 < N + objs.length
      · simp only [d1, d2, if_true] at q1 q2; exact hinj c1 c2 i q1 q2
      · simp only [d1, d2, if_true, if_false] at q1 q2
        obtain ⟨j, _, rfl⟩ := Option.map_eq_some_iff.1 q2
        have := hiN _ _ q1; omega
      · simp only [d1, d2, if_true, if_false] at q1 q2
        obtain ⟨j, _, rfl⟩ := Option.map_eq_some_iff.1 q1
        have := hiN _ _ q2; omega
      · simp only [d1, d2, if_false] at q1 q2
        obtain ⟨j1, w1, w2⟩ := Option.map_eq_some_iff.1 q1
        obtain ⟨j2, w3, w4⟩ := Option.map_eq_some_iff.1 q2
        have : j1 = j2 := by omega
        subst this
        have := posOf_eq w1
        rw [posOf_eq w3] at this; cases this; rfl
    · intro b hb
      rw [hHn, ← ol] at hb
      simp only [hb, if_true]
    · intro b i hb hge
      rw [hHn, ← ol] at hge
      simp only [show ¬ b < N + objs.length by omega, if_false] at hb
      obtain ⟨j, w1, rfl⟩ := Option.map_eq_some_iff.1 hb
      have := posOf_eq w1
      have hj : j < ns.length := by
        rcases Nat.lt_or_ge j ns.length with h | h
        · exact h
        · rw [List.getElem?_eq_none h] at this; cases this
      rw [n1, b1]; omega
    · intro i o hi hc
      by_cases hge : H.next ≤ i
      · have hiu : i < H.next + x.news.length := by
          rcases Nat.lt_or_ge i (H.next + x.news.length) with h | h
          · exact h
          · rw [n4 i (by rw [b1]; exact h)] at hi
            have hnb : i ∉ bs := by
              intro hb
              obtain ⟨_, T, hT⟩ := hbs2 i hb
              have := hH.lt_map hT; omega
            rw [b2 i hnb, (hH.fresh i hge).1] at hi; cases hi
        obtain ⟨o0, w1, w2, w3⟩ := n3 i o (by rw [b1]; exact hge) (by rw [b1]; exact hiu) hi
        rw [b1] at w1
        have hj : i - H.next < ns.length := by omega
        have hb := List.getElem?_eq_getElem hj
        obtain ⟨o1, y1, y2⟩ := m5 (i - H.next) _ o0 hb w1
        have hge2 := m2 _ (List.mem_of_getElem? hb)
        have hro1 : renO (fun b => if b < N + objs.length then outOf laid N bs b else (posOf b ns).map (H.next + ·)) o1 = some o := by
          rw [renO_comp (υ := extOut laid N bs H.next x.news.length) hcomp y1]; exact w2
        refine ⟨ns[i - H.next], o1, ?_, y2, hro1, by rw [← (renO_ro hro1).1]; exact w3⟩
        simp only [show ¬ ns[i - H.next] < N + objs.length by omega, if_false]
        rw [posOf_at m1 hb]
        show some (H.next + (i - H.next)) = some i
        congr 1; omega
      · rcases hc with hc | ⟨b, o0, q1, q2, q3⟩
        · exact absurd hc hge
        · have hmm := hroV b o0 q1 q2
          obtain ⟨q4, p0, q5, q6⟩ := hHg b o0 q1
          rw [outOf_ge q4] at q3
          rw [n2 i (by rw [b1]; omega)] at hi
          obtain ⟨o2, w1, w2, w3⟩ := b4 (b - N) i o q3 (by rw [Nat.zero_add]; exact hmm) hi
          have hj : b - N < objs.length := by
            rcases Nat.lt_or_ge (b - N) objs.length with h | h
            · exact h
            · rw [List.getElem?_eq_none h] at q5; cases q5
          obtain ⟨o1, y1, y2⟩ := m6 (b - N) o2 hj hmm w1
          rw [show N + (b - N) = b by omega] at y2
          have hro1 : renO (fun b => if b < N + objs.length then outOf laid N bs b else (posOf b ns).map (H.next + ·)) o1 = some o := by
            rw [renO_comp (υ := extOut laid N bs H.next x.news.length) hcomp y1]; exact w2
          refine ⟨b, o1, ?_, y2, hro1, by rw [← (renO_ro hro1).1]; exact w3⟩
          simp only [show b < N + objs.length by omega, if_true]
          rw [outOf_ge q4]; exact q3
    · rw [show renV _ vc = renV (extOut laid N bs H.next x.news.length) x.v from ren_comp hcomp 6 _ _ m4]
      exact e1
theorem iok_foot {P : Program} {laid : List (Nat × List Value)} {fs : List (FuncId × IFun)} (hfs : AllOk P laid fs) (hm : P.follows .mixedOrders = true) {f : FuncId} {n N : Nat} (he : entry P f = some (n, pcOf P f [])) (hN : (laid.all fun p => Nat.blt p.1 N) = true)
    {muts : List Bool} {G : List Value → List IObj → GT} (hG : ∀ argsc objs x, (G argsc objs).run = some x → (∀ (j : Nat) (o : IObj), objs[j]? = some o → mutAt muts j = true → o.ro = false) →
      argsc.length ≤ n ∧ EndsN (ctxI P laid fs) (N + objs.length) f (fun v Hf => TMatch laid N objs.length muts x v Hf) (startC f (fillTmps 0 argsc .leaf) n (pcOf P f []) (putL ⟨.leaf, N⟩ (viewL muts 0 objs)))) :
    IOk P laid f (footF laid N muts G) :=
  iok_footD hfs hm he hN fun argsc objs x hx hro => ⟨(hG argsc objs x hx hro).1, (hG argsc objs x hx hro).2.toD⟩
end Go.Ideal

namespace Go.Ideal
noncomputable def delL : List Nat → IHeap → IHeap
  | [], H => H
  | b :: r, H => delL r (H.del b)
theorem delL_next : ∀ (r : List Nat) (H : IHeap), (delL r H).next = H.next
  | [], _ => rfl
  | b :: r, H => delL_next r (H.del b)
theorem delL_get : ∀ (r : List Nat) (H : IHeap) (x : Nat), (delL r H).get x = if x ∈ r then none else H.get x
  | [], H, x => by simp [delL]
  | b :: r, H, x => by
    rw [delL, delL_get r (H.del b) x, IHeap.get_del]
    by_cases h1 : x ∈ r
    · simp [h1]
    · by_cases h2 : x = b
      · simp [h2]
      · simp [h1, h2]
noncomputable def shutH (s : Pk) : List Nat → IHeap → IHeap
  | [], H => H
  | b :: r, H => (delL r H).put b (.abs (.pack s) false)
theorem shutH_ok {s : Pk} {bs : List Nat} {H : IHeap} (hnd : bs.Nodup) : Shut H s bs (shutH s bs H) := by
  cases bs with
  | nil => exact ⟨rfl, fun b h => (by cases h), fun i b _ h => (by cases h), fun x _ => rfl⟩
  | cons b r =>
    have hbr : b ∉ r := (List.nodup_cons.1 hnd).1
    refine ⟨?_, ?_, ?_, ?_⟩
    · show (delL r H).next = H.next
      exact delL_next r H
    · intro b' hb'
      cases hb'
      show ((delL r H).put b _).get b = _
      rw [IHeap.get_put, if_pos rfl]
    · intro i b' hi hb'
      cases i with
      | zero => omega
      | succ i =>
        have hm : b' ∈ r := List.mem_of_getElem? (i := i) hb'
        show ((delL r H).put b _).get b' = _
        rw [IHeap.get_put, if_neg (by rintro rfl; exact hbr hm), delL_get, if_pos hm]
    · intro x hx
      simp only [List.mem_cons, not_or] at hx
      show ((delL r H).put b _).get x = _
      rw [IHeap.get_put, if_neg hx.1, delL_get, if_neg hx.2]

inductive ShutsTo (D : Nat → Prop) (v : Value) : IHeap → IHeap → Prop where
  | refl (H : IHeap) : ShutsTo D v H H
  | step {H H2 : IHeap} (s : Pk) (objs : List IObj) (bs rs : List Nat) (hr : pkReps s objs) (hne : objs ≠ []) (hlen : bs.length = objs.length) (hnd : bs.Nodup) (hrs : ∀ b ∈ rs, b ∈ refsN 4 v ∨ D b)
      (hreach : ∀ b ∈ bs, b ∈ reach2 H 0 200 rs []) (hobj : ∀ (i b : Nat) (o : IObj), bs[i]? = some b → objs[i]? = some o → ∃ o1, H.get b = some o1 ∧ o1.ro = false ∧ o1.packs = true ∧ renO (gren bs (pkExt s)) o = some o1) (hroot : ∀ o T, objs[0]? = some o → ¬ o.void T)
      (k : ShutsTo D v (shutH s bs H) H2) : ShutsTo D v H H2
theorem ShutsTo.ok {D : Nat → Prop} {v : Value} {H H2 : IHeap} (h : ShutsTo D v H H2) {base : Env} {W0 W : World} {μ : Inj} {v' : Value} (hD : ∀ b, D b → ∃ T, base.mu0 b = some T) (hv : VRel μ v v') : HRel base W0 μ H W → HRel base W0 μ H2 W := by
  induction h with
  | refl H => exact fun h => h
  | step s objs bs rs hr hne hlen hnd hrs hreach hobj hroot k ih =>
    intro hH
    refine ih (hH.shut hr hnd hlen hne (fun b hb => ?_) hobj (shutH_ok hnd) hroot).1
    have hr2 := reach2_ok hH (N := 0) 200 rs [] (fun b hb => ?_) ⟨List.nodup_nil, fun b hb => by cases hb⟩
    · exact (hr2.2 b (hreach b hb)).2
    · rcases hrs b hb with hb | hb
      · exact refsL_dom (LRel.cons hv .nil) b (by simpa using hb)
      · obtain ⟨T, hT⟩ := hD b hb
        exact ⟨T, hH.le b T hT⟩

section
variable {X : Ctx} {N : Nat} {D : Nat → Prop} {f : FuncId} {Q Q' : Value → IHeap → Prop}
theorem EndsD.opened {c : Cfg} {b : Nat} {s : Pk} {ro : Bool} (hD : D b) (hb : c.H.get b = some (.abs (.pack s) ro)) (hp : ∀ ops p k, c.fr.todo ≠ .dreg ops p :: k)
    (h : ∀ objs, pkReps s objs → ∃ H', Opened c.H b ro objs H' (pkExt s) ∧ EndsD X N D f Q ⟨c.fr, c.cs, H'⟩) : EndsD X N D f Q c := by
  intro base W0 hb0 hDm hok hplan cs0 μ fr cs W hm
  obtain ⟨T, hT⟩ := hDm b hD
  obtain ⟨hH, hlaid, g, gs, hfr, hcs, hnd⟩ := hm
  obtain ⟨objs, hr, ho⟩ := hH.opened hb (hH.le b T hT)
  obtain ⟨H', hO, hrun⟩ := h objs hr
  obtain ⟨μ', hH', hE⟩ := ho H' hO
  refine hrun base W0 hb0 hDm hok hplan cs0 μ' fr cs W ⟨hH', hlaid.mono hE.le, g, gs, ?_, hcs.mono (hE.keeps _), hnd⟩
  obtain ⟨f0, cs1, H1⟩ := c
  cases hfr with
  | plain fn t n tm todo todo' ds ds' r kd rd rd' ht hi hd hr => exact .plain fn t n tm todo todo' ds ds' r kd rd rd' (ht.mono hE.le) (hi.mono hE.le) (hd.mono hE.le) (hr.mono hE.le)
  | drawn fn t n tm ops plan idx D G k k' ds ds' kd rd rd' hD hk hd hr => exact absurd rfl (hp ops plan k)
theorem EndsD.shut {c : Cfg} (h : EndsD X N D f Q c) (hq : ∀ v H, Q v H → ∃ H2, ShutsTo D v H H2 ∧ Q' v H2) : EndsD X N D f Q' c := by
  intro base W0 hb0 hDm hok hplan cs0 μ fr cs W hm
  obtain ⟨c', ⟨v, H, v1, H1, h1, h2, h3⟩, h4⟩ := h base W0 hb0 hDm hok hplan cs0 μ fr cs W hm
  obtain ⟨H2, k1, k2⟩ := hq v1 H1 h3
  refine ⟨c', ⟨v, H, v1, H2, h1, fun μ1 W1 v' hv hH => ?_, k2⟩, h4⟩
  obtain ⟨μ2, g0, g1, g2⟩ := h2 μ1 W1 v' hv hH
  exact ⟨μ2, g0, k1.ok hDm g2 g1, g2⟩
theorem EndsD.tell {c : Cfg} (h : EndsD X N D f Q c) (hq : ∀ v H, Q v H → ∃ v2 H2, (∀ (base : Env) (W0 : World) (μ : Inj) (W : World) (v' : Value), (∀ b, D b → ∃ T, μ b = some T) → VRel μ v v' → HRel base W0 μ H W → ∃ μ2, μ.le μ2 ∧ HRel base W0 μ2 H2 W ∧ VRel μ2 v2 v') ∧ Q' v2 H2) : EndsD X N D f Q' c := by
  intro base W0 hb0 hDm hok hplan cs0 μ fr cs W hm
  obtain ⟨c', ⟨v, H, v1, H1, h1, h2, h3⟩, h4⟩ := h base W0 hb0 hDm hok hplan cs0 μ fr cs W hm
  obtain ⟨v2, H2, k1, k2⟩ := hq v1 H1 h3
  refine ⟨c', ⟨v, H, v2, H2, h1, fun μ1 W1 v' hv hH => ?_, k2⟩, h4⟩
  obtain ⟨μ2, g0, g1, g2⟩ := h2 μ1 W1 v' hv hH
  obtain ⟨μ3, f0, f1, f2⟩ := k1 base W0 μ2 W1 v' (fun b hb => by obtain ⟨T, hT⟩ := hDm b hb; exact ⟨T, g1.le b T hT⟩) g2 g1
  exact ⟨μ3, Inj.le_trans g0 f0, f1, f2⟩
theorem EndsD.told {c : Cfg} (h : EndsD X N D f Q c) (hq : ∀ v H, Q v H → ∃ H2, (∀ (base : Env) (W0 : World) (μ : Inj) (W : World), HRel base W0 μ H W → HRel base W0 μ H2 W) ∧ Q' v H2) : EndsD X N D f Q' c :=
  h.tell fun v H q => let ⟨H2, k1, k2⟩ := hq v H q; ⟨v, H2, fun base W0 μ W _ _ hv hH => ⟨μ, Inj.le_refl _, k1 base W0 μ W hH, hv⟩, k2⟩
theorem EndsD.row {c : Cfg} {k : EK} (h : EndsD X N D f Q c) (hq : ∀ v H, Q v H → ∃ b n l, v = .slice (some ⟨b, 0, none⟩) n (capU + n) ∧ H.get b = some (.cells (encL k l) k.length false) ∧ Q' (.slice (some ⟨b, 0, some 0⟩) n capU) (H.put b (.vec k l false))) (hk0 : k.length ≠ 0 := by decide) : EndsD X N D f Q' c := by
  intro base W0 hb0 hDm hok hplan cs0 μ fr cs W hm
  obtain ⟨c', ⟨v, H, v1, H1, h1, h2, h3⟩, h4⟩ := h base W0 hb0 hDm hok hplan cs0 μ fr cs W hm
  obtain ⟨b, n, l, rfl, hg, k2⟩ := hq v1 H1 h3
  refine ⟨c', ⟨v, H, _, _, h1, fun μ1 W1 v' hv hH => ?_, k2⟩, h4⟩
  obtain ⟨μ2, g0, g1, g2⟩ := h2 μ1 W1 v' hv hH
  have g3 := g1.revec hg
  exact ⟨μ2, g0, g3, flat_row (j := 0) hk0 (Nat.le_refl _) (fun T hT => g3.elem (by rw [IHeap.get_put, if_pos rfl]) hT) (by rw [Nat.zero_mul]; exact slice_down g2)⟩
end
end Go.Ideal

namespace Go.Ideal

noncomputable def imid (sz bytes b off len i n : Nat) (new : List Value) (H : IHeap) : Option (Value × IHeap) :=
  match H.get b with
  | some (.cells cs e false) =>
    let old := (cs.drop off).take (len * sz)
    bif Nat.beq old.length (len * sz) && Nat.beq e sz && old.all okCell && new.all okCell && Nat.ble ((2 * (len + n) + 192) * bytes) 281474976710656 && Nat.ble (len + n) 4611686018427387904 then
      some (.slice (some ⟨H.next, 0, none⟩) (len + n) (capU + (len + n)), (H.del b).alloc (.cells (old.take (i * sz) ++ (new ++ old.drop (i * sz))) sz false))
    else none
  | _ => none
def isOwn (o : Option IObj) : Bool :=
  match o with
  | some (.cells _ e false) => !(Nat.beq e 1)
  | _ => false
noncomputable def iinsert (sz bytes : Nat) : IFun := fun args H =>
  match args with
  | [.slice (some ⟨b, off, none⟩) len cap, .int .i64 (.ofNat i), .slice (some ⟨vb, voff, none⟩) m vcap] =>
    bif Nat.ble capU cap && Nat.blt i len && !(Nat.beq vb b) && !(Nat.beq m 0) && isOwn (H.get vb) then
      match isrc sz (.slice (some ⟨vb, voff, none⟩) m vcap) H with
      | some (n, new) => imid sz bytes b off len i n new H
      | none => none
    else none
  | _ => none

end Go.Ideal

namespace Go.Ideal

theorem setCells_raw (c : Nat) (t : TypeId) (fz : Nat × Nat) : ∀ (l : List Value) (o : Nat) (a : Array Value) (w : World), w.heap[c]? = some (.cells a t fz) → o + l.length ≤ a.size →
    ∃ a' : Array Value, (w.setCells c o l).heap[c]? = some (.cells a' t fz) ∧ a'.toList = splice a.toList o l ∧ a'.size = a.size ∧ (w.setCells c o l).heap.size = w.heap.size ∧ (∀ i, i ≠ c → (w.setCells c o l).heap[i]? = w.heap[i]?) ∧ (w.setCells c o l).output = w.output ∧ (w.setCells c o l).os = w.os := by
  intro l
  induction l with
  | nil => intro o a w hw _; exact ⟨a, hw, by rw [splice_nil], rfl, rfl, fun _ _ => rfl, rfl, rfl⟩
  | cons v l ih =>
    intro o a w hw hlen
    simp only [List.length_cons] at hlen
    have hw1 : (w.setCell ⟨c, o, none⟩ v).heap[c]? = some (.cells (a.setIfInBounds o v) t fz) := by
      simp only [World.setCell, Array.getElem?_modify, if_true, hw]
      rfl
    obtain ⟨a', r1, r2, r2b, r3, r4, r5, r6⟩ := ih (o + 1) (a.setIfInBounds o v) (w.setCell ⟨c, o, none⟩ v) hw1 (by simp; omega)
    refine ⟨a', r1, ?_, by rw [r2b]; simp, ?_, ?_, r5, r6⟩
    · rw [r2, splice_cons _ _ _ _ (by simp; omega), Array.toList_setIfInBounds]
    · show ((w.setCell ⟨c, o, none⟩ v).setCells c (o + 1) l).heap.size = _
      rw [r3]; simp [World.setCell]
    · intro i hi
      show ((w.setCell ⟨c, o, none⟩ v).setCells c (o + 1) l).heap[i]? = _
      rw [r4 i hi]
      simp only [World.setCell, Array.getElem?_modify]
      rw [if_neg (Ne.symm hi)]

def InsShift (P : Program) (f : FuncId) (k : Nat) : Prop := ∀ (b off n c i vb voff m vc : Nat) (cs vs : List Value) (w : World), i < n → 0 < m → n + m ≤ c → c ≤ 9223372036854775807 → vb ≠ b →
    cs.length = n * k → vs.length = m * k →
    (∀ j v, cs[j]? = some v → w.cell? ⟨b, off + j, none⟩ = some v) → (∀ j, j < (n + m) * k → (w.cell? ⟨b, off + j, none⟩).isSome = true) → (∀ j, j < (n + m) * k → w.frozen? ⟨b, off + j, none⟩ = false) →
    (∀ j v, vs[j]? = some v → w.cell? ⟨vb, voff + j, none⟩ = some v) → (∀ v ∈ cs, v.oneCell' = true) → (∀ v ∈ vs, v.oneCell' = true) →
    ∀ (tA tB : TypeId) (kA kB : Nat), w.shape? vb = some (tA, kA) → w.shape? b = some (tB, kB) → kB ≠ 0 → w.frozen? ⟨vb, voff, none⟩ = false → w.frozen? ⟨vb, kA, none⟩ = false →
    Calls P f #[.slice (some ⟨b, off, none⟩) n c, .int .i64 i, .slice (some ⟨vb, voff, none⟩) m vc] w fun e w' =>
      e = .returned (.slice (some ⟨b, off, none⟩) (n + m) c) ∧ w' = (w.drew.setCells b (off + (i + m) * k) (cs.drop (i * k))).setCells b (off + i * k) vs
def InsGrow (P : Program) (f : FuncId) (k B : Nat) (E : TypeId) : Prop := ∀ (b off n c i vb voff m vc : Nat) (cs vs : List Value) (w : World), i < n → 0 < m → n ≤ c → c < n + m → (2 * (n + m) + 192) * B ≤ 281474976710656 →
    cs.length = n * k → vs.length = m * k →
    (∀ j v, cs[j]? = some v → w.cell? ⟨b, off + j, none⟩ = some v) →
    (∀ j v, vs[j]? = some v → w.cell? ⟨vb, voff + j, none⟩ = some v) → (∀ v ∈ cs, v.oneCell' = true) → (∀ v ∈ vs, v.oneCell' = true) →
    Calls P f #[.slice (some ⟨b, off, none⟩) n c, .int .i64 i, .slice (some ⟨vb, voff, none⟩) m vc] w fun e w' =>
      ∃ (G : Nat) (ROW : Array Value), n + m ≤ G ∧ ROW.size = G * k ∧ ROW.toList.take (i * k) = cs.take (i * k) ∧ e = .returned (.slice (some ⟨w.heap.size, 0, none⟩) (n + m) G) ∧ G ≤ 9223372036854775807 ∧
        w' = (((w.alloc (.cells ROW E)).drew.setCells w.heap.size (i * k) vs).drew).setCells w.heap.size ((i + m) * k) (cs.drop (i * k))

theorem splice_at (A B D : List Value) (y : Nat) : splice (A ++ B) (A.length + y) D = A ++ splice B y D := by
  unfold splice
  rw [List.take_append, List.take_of_length_le (by omega), List.append_assoc]
  congr 1
  rw [show A.length + y - A.length = y by omega]
  congr 2
  rw [show A.length + y + D.length = A.length + (y + D.length) by omega, List.drop_append]
  rw [List.drop_eq_nil_of_le (by omega), List.nil_append, show A.length + (y + D.length) - A.length = y + D.length by omega]
theorem splice_up (A D V : List Value) (x y : Nat) (hxy : x + V.length = y) (hy : y + D.length ≤ A.length) : (splice (splice A y D) x V).take (x + V.length + D.length) = A.take x ++ (V ++ D) := by
  unfold splice
  have h1 : (A.take y ++ (D ++ A.drop (y + D.length))).take x = A.take x := by
    rw [List.take_append_of_le_length (by rw [List.length_take]; omega), List.take_take, Nat.min_eq_left (by omega)]
  have h2 : (A.take y ++ (D ++ A.drop (y + D.length))).drop (x + V.length) = D ++ A.drop (y + D.length) := by
    rw [hxy, List.drop_append, List.drop_eq_nil_of_le (by rw [List.length_take]; omega), List.nil_append, List.length_take, Nat.min_eq_left (by omega), Nat.sub_self, List.drop_zero]
  rw [h1, h2, ← List.append_assoc, ← List.append_assoc, ← List.append_assoc, List.take_append_of_le_length (by simp; omega), List.take_of_length_le (by simp; omega), List.append_assoc]
theorem splice_up2 (A D V : List Value) (x y : Nat) (hxy : x + V.length = y) (hy : y + D.length ≤ A.length) : (splice (splice A x V) y D).take (x + V.length + D.length) = A.take x ++ (V ++ D) := by
  unfold splice
  have h1 : (A.take x ++ (V ++ A.drop (x + V.length))).take y = A.take x ++ V := by
    rw [← List.append_assoc, List.take_append_of_le_length (by simp; omega), List.take_of_length_le (by simp; omega)]
  rw [h1, ← List.append_assoc, List.take_append_of_le_length (by simp; omega), List.take_of_length_le (by simp; omega), List.append_assoc]

section
variable {P : Program} {laid : List (Nat × List Value)}
theorem cell_of_raw {W : World} {c : Nat} {arr : Array Value} {t : TypeId} {fz : Nat × Nat} (hob : W.heap[c]? = some (.cells arr t fz)) {d n j : Nat} {v : Value} (h : ((arr.toList.drop d).take n)[j]? = some v) : W.cell? ⟨c, d + j, none⟩ = some v := by
  rw [List.getElem?_take] at h
  split at h
  · rw [List.getElem?_drop] at h
    simp only [World.cell?, hob]
    simpa using h
  · cases h
theorem rel_oneCell {μ : Inj} {l l' : List Value} (h : LRel μ l l') (hok : l.all okCell = true) : ∀ v ∈ l', v.oneCell' = true := by
  intro q hq
  obtain ⟨k, hk, rfl⟩ := List.getElem_of_mem hq
  have hl := h.length
  have hk2 : k < l.length := by omega
  exact okCell_rel (h.idx k hk2 hk) (List.all_eq_true.1 hok _ (List.getElem_mem hk2))

theorem iok_insert {f : FuncId} {k B : Nat} {E : TypeId} (hent : ∃ n c, entry P f = some (n, c)) (hk0 : 0 < k) (hk1 : k ≠ 1) (hS : InsShift P f k) (hG : InsGrow P f k B E) : IOk P laid f (iinsert k B) := by
  refine ⟨hent, ?_⟩
  intro base W0 μ H W args args' v H' hW h hl ha hF
  unfold iinsert at hF
  split at hF
  · rename_i b off len cap i vb voff m vcap
    cases hc0 : (Nat.ble capU cap && Nat.blt i len && !(Nat.beq vb b) && !(Nat.beq m 0) && isOwn (H.get vb))
    · simp only [hc0, cond_false] at hF; cases hF
    simp only [hc0, cond_true] at hF
    simp only [Bool.and_eq_true, Bool.not_eq_true'] at hc0
    obtain ⟨⟨⟨⟨g1, g2⟩, g3⟩, g4⟩, g5⟩ := hc0
    have g1 := Nat.le_of_ble_eq_true g1
    have g2 : i < len := Nat.le_of_ble_eq_true g2
    have g3 : vb ≠ b := by rintro rfl; rw [Nat.beq_refl] at g3; cases g3
    have g4 : m ≠ 0 := by rintro rfl; cases g4
    -- the arguments
    generalize hq : args'.toList = q at ha
    cases ha with
    | cons h1 ha => cases ha with
      | cons h2 ha => cases ha with
        | cons h3 ha =>
          cases ha
          cases h2
          cases h1 with
          | slice _ _ _ _ cap' o' T hm hcr ho =>
            cases h3 with
            | slice _ _ _ _ vcap' vo' T2 hm2 hcr2 ho2 =>
              have hargs : args' = #[.slice (some ⟨T.c, o', none⟩) len cap', .int .i64 (Int.ofNat i), .slice (some ⟨T2.c, vo', none⟩) m vcap'] := by rw [← Array.toList_inj, hq]
              subst hargs
              have hcr' : cap - capU ≤ cap' ∧ len ≤ cap' ∧ off + cap' * T.e ≤ T.r ∧ (T.e = 1 ∨ cap' ≤ 9223372036854775807) := by
                rcases hcr with ⟨c1, c2⟩ | ⟨c1, c2, c3, c4, c5⟩
                · omega
                · exact ⟨c2, c3, c4, c5⟩
              obtain ⟨c2, c3, c4, c5⟩ := hcr'
              have hoo : o' = T.d + off := by
                rcases ho with ho | ⟨e1, _⟩
                · exact ho
                · omega
              subst hoo
              have hoo2 : vo' = T2.d + voff := by
                rcases ho2 with ho | ⟨e1, _⟩
                · exact ho
                · omega
              subst hoo2
              -- what is inserted
              split at hF
              · rename_i n new hsrc
                have hmk : m * k ≠ 0 := Nat.mul_ne_zero g4 (by omega)
                unfold isrc at hsrc
                simp only at hsrc
                cases hz : Nat.beq (m * k) 0
                · simp only [hz, cond_false] at hsrc
                  split at hsrc
                  · rename_i vcs ve vro hgetv
                    cases hll : Nat.beq ((vcs.drop voff).take (m * k)).length (m * k)
                    · simp only [hll, cond_false] at hsrc; cases hsrc
                    simp only [hll, cond_true, Option.some.injEq, Prod.mk.injEq] at hsrc
                    obtain ⟨rfl, rfl⟩ := hsrc
                    have hvlen := Nat.eq_of_beq_eq_true hll
                    have hvro : vro = false ∧ ve ≠ 1 := by
                      rw [hgetv] at g5
                      unfold isOwn at g5
                      cases vro
                      · refine ⟨rfl, ?_⟩
                        rintro rfl
                        simp at g5
                      · simp at g5
                    obtain ⟨rfl, hve⟩ := hvro
                    unfold imid at hF
                    split at hF
                    · rename_i cs e hget
                      simp only at hF
                      cases hbb : (Nat.beq ((cs.drop off).take (len * k)).length (len * k) && Nat.beq e k && ((cs.drop off).take (len * k)).all okCell && ((vcs.drop voff).take (m * k)).all okCell && Nat.ble ((2 * (len + m) + 192) * B) 281474976710656 && Nat.ble (len + m) 4611686018427387904)
                      · simp only [hbb, cond_false] at hF; cases hF
                      simp only [hbb, cond_true, Option.some.injEq, Prod.mk.injEq] at hF
                      obtain ⟨rfl, rfl⟩ := hF
                      simp only [Bool.and_eq_true] at hbb
                      obtain ⟨⟨⟨⟨⟨b1, b2⟩, b3⟩, b4⟩, b5⟩, b6⟩ := hbb
                      have b1 := Nat.eq_of_beq_eq_true b1
                      have b2 := Nat.eq_of_beq_eq_true b2
                      have b5 := Nat.le_of_ble_eq_true b5
                      have b6 := Nat.le_of_ble_eq_true b6
                      subst b2
                      obtain ⟨ob, hob, hor⟩ := h.obj b _ hget T hm
                      obtain ⟨ov, hov, horv⟩ := h.obj vb _ hgetv T2 hm2
                      cases hor with
                      | cells _ _ _ arr t lo hi2 hTe hcl hsz hfz =>
                        cases horv with
                        | cells _ _ _ varr vt vlo vhi hTe2 hclv hszv hfzv =>
                          have hTc : T2.c ≠ T.c := fun e1 => g3 (h.inj vb b _ _ hgetv hget T2 T hm2 hm id id e1)
                          rw [← hTe] at c4 c5
                          have hold : LRel μ ((cs.drop off).take (len * e)) ((arr.toList.drop (T.d + off)).take (len * e)) := by
                            have := (hcl.drop off).take (len * e)
                            rw [List.drop_take, List.drop_drop, List.take_take, Nat.min_eq_left (by rw [List.length_take, List.length_drop] at b1; omega)] at this
                            exact this
                          have hnew : LRel μ ((vcs.drop voff).take (m * e)) ((varr.toList.drop (T2.d + voff)).take (m * e)) := by
                            have := (hclv.drop voff).take (m * e)
                            rw [List.drop_take, List.drop_drop, List.take_take, Nat.min_eq_left (by rw [List.length_take, List.length_drop] at hvlen; omega)] at this
                            exact this
                          have hlo := hold.length
                          have hln := hnew.length
                          generalize hO : (cs.drop off).take (len * e) = O at hold hlo b1 b3 ⊢
                          generalize hV : (vcs.drop voff).take (m * e) = V at hnew hln hvlen b4 ⊢
                          generalize hO' : (arr.toList.drop (T.d + off)).take (len * e) = O' at hold hlo
                          generalize hV' : (varr.toList.drop (T2.d + voff)).take (m * e) = V' at hnew hln
                          have hcsC : ∀ j v, O'[j]? = some v → W.cell? ⟨T.c, T.d + off + j, none⟩ = some v := fun j v hj => cell_of_raw hob (by rw [hO']; exact hj)
                          have hvsC : ∀ j v, V'[j]? = some v → W.cell? ⟨T2.c, T2.d + voff + j, none⟩ = some v := fun j v hj => cell_of_raw hov (by rw [hV']; exact hj)
                          have h1O := rel_oneCell hold b3
                          have h1V := rel_oneCell hnew b4
                          have hie : i * e ≤ len * e := Nat.mul_le_mul_right _ (by omega)
                          have hmul : (i + m) * e = i * e + m * e := Nat.add_mul _ _ _
                          have hmul2 : (len + m) * e = len * e + m * e := Nat.add_mul _ _ _
                          obtain ⟨hdel, hdelE⟩ := h.del hm
                          have hrel : LRel μ (O.take (i * e) ++ (V ++ O.drop (i * e))) (O'.take (i * e) ++ (V' ++ O'.drop (i * e))) := (hold.take _).append (hnew.append (hold.drop _))
                          have hrl : (O.take (i * e) ++ (V ++ O.drop (i * e))).length = len * e + m * e := by
                            simp only [List.length_append, List.length_take, List.length_drop]; omega
                          have hdl : (O'.drop (i * e)).length = len * e - i * e := by rw [List.length_drop]; omega
                          have hvsz : T2.d + voff + m * e ≤ varr.size := by
                            have := hclv.length
                            have hx : ((varr.toList.drop (T2.d + voff)).take (m * e)).length = m * e := by rw [hV']; omega
                            rw [List.length_take, List.length_drop, Array.length_toList] at hx
                            omega
                          by_cases hfit : len + m ≤ cap'
                          · have hce : (len + m) * e ≤ cap' * e := Nat.mul_le_mul_right _ hfit
                            refine Calls.mono (hS T.c (T.d + off) len cap' i T2.c (T2.d + voff) m vcap' O' V' W g2 (by omega) hfit (by omega) hTc (by omega) (by omega) hcsC ?_ ?_ hvsC h1O h1V vt t varr.size arr.size ?_ ?_ ?_ ?_ ?_) ?_
                            · intro j hj
                              simp only [World.cell?, hob]
                              rw [Array.getElem?_eq_getElem (by omega)]; rfl
                            · intro j hj
                              have := hfz rfl (T.d + off + j) (.inl (by omega))
                              simp only [World.frozen?, hob, Bool.and_eq_false_iff, decide_eq_false_iff_not]
                              omega
                            · simp only [World.shape?, hov]
                            · simp only [World.shape?, hob]
                            · have : 0 < (len + m) * e := Nat.mul_pos (by omega) hk0
                              omega
                            · have := hfzv rfl (T2.d + voff) (.inl (by have : 0 < m * e := Nat.pos_of_ne_zero hmk; omega))
                              simp only [World.frozen?, hov, Bool.and_eq_false_iff, decide_eq_false_iff_not]
                              omega
                            · have := hfzv rfl varr.size (.inr ⟨rfl, hve⟩)
                              simp only [World.frozen?, hov, Bool.and_eq_false_iff, decide_eq_false_iff_not]
                              omega
                            · rintro ex W' ⟨rfl, rfl⟩
                              obtain ⟨a1, r1, r2, r2b, r3, r4, r5, r6⟩ := setCells_raw T.c t (lo, hi2) (O'.drop (i * e)) (T.d + off + (i + m) * e) arr W.drew hob (by omega)
                              obtain ⟨a2, s1, s2, s2b, s3, s4, s5, s6⟩ := setCells_raw T.c t (lo, hi2) V' (T.d + off + i * e) a1 _ r1 (by omega)
                              obtain ⟨φ, q⟩ := h.abs
                              have hmap := hdel.map_new (T := ⟨T.c, T.d + off, T.r - off, e⟩) (o := .cells (O.take (i * e) ++ (V ++ O.drop (i * e))) e false) (W' := (W.drew.setCells T.c (T.d + off + (i + m) * e) (O'.drop (i * e))).setCells T.c (T.d + off + i * e) V')
                                (by rw [s3, r3]; exact Nat.le_refl _) (fun j _ hj => by rw [s4 j hj, r4 j hj]; rfl)
                                (fun b' p T' hb' hm' hv => by
                                  intro e1
                                  obtain ⟨e2, hb2⟩ := IHeap.get_of_del hb'
                                  exact e2 (h.inj b' b _ _ hb2 hget T' T hm' hm hv id e1))
                                ⟨φ, ⟨fun b' a ro T' h1 h2 => q.rep b' a ro T' (IHeap.get_of_del h1).2 h2, fun b' a ro T' h1 h2 b2 o2 T2 h3 h4 h5 => q.far b' a ro T' (IHeap.get_of_del h1).2 h2 b2 o2 T2 (IHeap.get_of_del h3).2 h4 h5⟩,
                                  fun b' a ro h1 ⟨T', h2⟩ => (q.far b' a ro T' (IHeap.get_of_del h1).2 h2 b _ T hget hm (Ne.symm (IHeap.get_of_del h1).1) id).1⟩
                                s1 (h.own b _ hget rfl T hm id) ?_ (by rw [s5, r5]; rfl) (by rw [s6, r6]; rfl)
                              · exact ⟨_, _, rfl, hmap.1, .slice H.next 0 _ _ _ _ ⟨T.c, T.d + off, T.r - off, e⟩ (Inj.ext_same _ _ _) (.inr ⟨by omega, by omega, hfit, by show 0 + cap' * e ≤ T.r - off; omega, by show e = 1 ∨ _; omega⟩) (.inl rfl), hdelE.trans hmap.2⟩
                              · refine .cells ⟨T.c, T.d + off, T.r - off, e⟩ _ _ false _ t lo hi2 rfl ?_ ?_ ?_
                                · show LRel μ _ (List.take _ (List.drop (T.d + off) a2.toList))
                                  have hA : arr.toList = arr.toList.take (T.d + off) ++ arr.toList.drop (T.d + off) := (List.take_append_drop _ _).symm
                                  have hAl : (arr.toList.take (T.d + off)).length = T.d + off := by rw [List.length_take, Array.length_toList]; omega
                                  generalize hA0 : arr.toList.take (T.d + off) = A0 at hA hAl
                                  generalize hA1 : arr.toList.drop (T.d + off) = A1 at hA hO'
                                  have hA1l : (len + m) * e ≤ A1.length := by rw [← hA1, List.length_drop, Array.length_toList]; omega
                                  have hs2 : a2.toList = A0 ++ splice (splice A1 ((i + m) * e) (O'.drop (i * e))) (i * e) V' := by
                                    rw [s2, r2, hA]
                                    rw [show T.d + off + (i + m) * e = A0.length + (i + m) * e by omega, splice_at]
                                    rw [show T.d + off + i * e = A0.length + i * e by omega, splice_at]
                                  rw [hs2, hrl, List.drop_left' hAl]
                                  have hup := splice_up A1 (O'.drop (i * e)) V' (i * e) ((i + m) * e) (by omega) (by omega)
                                  rw [show i * e + V'.length + (O'.drop (i * e)).length = len * e + m * e by omega] at hup
                                  rw [hup, show A1.take (i * e) = O'.take (i * e) by rw [← hO', List.take_take, Nat.min_eq_left hie]]
                                  exact hrel
                                · show a2.size = T.d + off + (T.r - off)
                                  omega
                                · intro _ j hj
                                  refine hfz rfl j ?_
                                  have : a2.size = arr.size := by omega
                                  rw [← this]; exact hj
                          · refine Calls.mono (hG T.c (T.d + off) len cap' i T2.c (T2.d + voff) m vcap' O' V' W g2 (by omega) c3 (by omega) b5 (by omega) (by omega) hcsC hvsC h1O h1V) ?_
                            rintro ex W' ⟨G, ROW, z1, z2, z3, rfl, z4, rfl⟩
                            have hGe : (len + m) * e ≤ G * e := Nat.mul_le_mul_right _ z1
                            have hal : (W.alloc (.cells ROW E)).drew.heap[W.heap.size]? = some (.cells ROW E (0, 0)) := by
                              show (W.heap.push _)[W.heap.size]? = _
                              simp
                            obtain ⟨a1, r1, r2, r2b, r3, r4, r5, r6⟩ := setCells_raw W.heap.size E (0, 0) V' (i * e) ROW (W.alloc (.cells ROW E)).drew hal (by omega)
                            obtain ⟨a2, s1, s2, s2b, s3, s4, s5, s6⟩ := setCells_raw W.heap.size E (0, 0) (O'.drop (i * e)) ((i + m) * e) a1 (((W.alloc (.cells ROW E)).drew.setCells W.heap.size (i * e) V').drew) r1 (by omega)
                            have hpush : (W.alloc (.cells ROW E)).drew.heap.size = W.heap.size + 1 := by
                              show (W.heap.push _).size = _
                              simp
                            obtain ⟨φ, q⟩ := hdel.abs
                            have hmap := hdel.map_new (T := ⟨W.heap.size, 0, G * e, e⟩) (o := .cells (O.take (i * e) ++ (V ++ O.drop (i * e))) e false) (W' := (((W.alloc (.cells ROW E)).drew.setCells W.heap.size (i * e) V').drew).setCells W.heap.size ((i + m) * e) (O'.drop (i * e)))
                              (by
                                rw [s3]
                                show W.heap.size ≤ ((W.alloc (.cells ROW E)).drew.setCells W.heap.size (i * e) V').heap.size
                                rw [r3, hpush]; omega)
                              (fun j hjl hj => by
                                rw [s4 j hj]
                                show ((W.alloc (.cells ROW E)).drew.setCells W.heap.size (i * e) V').heap[j]? = _
                                rw [r4 j hj]
                                show (W.heap.push _)[j]? = _
                                rw [Array.getElem?_push, if_neg (by omega)])
                              (fun b' p T' hb' hm' _ => by have := hdel.bound b' T' hm'; show T'.c ≠ W.heap.size; omega)
                              ⟨φ, q, fun b' a ro hb' ⟨T', hm'⟩ hc => by
                                have := (RepG.bnd _ _ _ _ (q.rep b' a ro T' hb' hm').1).2 _ hc
                                exact absurd this (Nat.lt_irrefl _)⟩
                              s1 (fun hk => absurd (hdel.size _ hk) (Nat.lt_irrefl _)) ?_ (by rw [s5]; show ((W.alloc (.cells ROW E)).drew.setCells W.heap.size (i * e) V').output = _; rw [r5]; rfl) (by rw [s6]; show ((W.alloc (.cells ROW E)).drew.setCells W.heap.size (i * e) V').os = _; rw [r6]; rfl)
                            · exact ⟨_, _, rfl, hmap.1, .slice H.next 0 _ _ _ _ ⟨W.heap.size, 0, G * e, e⟩ (Inj.ext_same _ _ _) (.inr ⟨by omega, by omega, z1, by show 0 + G * e ≤ G * e; omega, .inr z4⟩) (.inl rfl), hdelE.trans hmap.2⟩
                            · refine .cells ⟨W.heap.size, 0, G * e, e⟩ _ _ false _ E 0 0 rfl ?_ ?_ (fun _ j _ => by omega)
                              · show LRel μ _ (List.take _ (List.drop 0 a2.toList))
                                rw [List.drop_zero, s2, r2, hrl]
                                have hup := splice_up2 ROW.toList (O'.drop (i * e)) V' (i * e) ((i + m) * e) (by omega) (by have e5 : ROW.toList.length = ROW.size := Array.length_toList; rw [e5]; omega)
                                rw [show i * e + V'.length + (O'.drop (i * e)).length = len * e + m * e by omega] at hup
                                rw [hup, z3]
                                exact hrel
                              · show a2.size = 0 + G * e
                                omega
                    · cases hF
                  · cases hsrc
                · exact absurd (Nat.eq_of_beq_eq_true hz) hmk
              · cases hF
  · cases hF
end
end Go.Ideal

namespace Go.Ideal
theorem known_ofI {P : Program} {laid : List (Nat × List Value)} {fs : List (FuncId × IFun)} (hfs : AllOk P laid fs) {k : Known} {n N : Nat} (hs : startOk P laid k n N = true)
    {c' : Cfg} {H1 : IHeap} (hrun : Goes (ctxI P laid fs) (startC k.f (fillTmps 0 k.args .leaf) n (pcOf P k.f []) (heap0 laid N)) c') (hd : doneF (ctxI P laid fs) k.f c' = some (k.v, H1)) : KnownOk P laid k := by
  simp only [startOk, Bool.and_eq_true] at hs
  obtain ⟨⟨⟨⟨⟨h1, h2⟩, h3⟩, h4⟩, h5⟩, h6⟩ := hs
  have he : entry P k.f = some (n, pcOf P k.f []) := by
    cases h : entry P k.f with
    | none => rw [h] at h6; cases h6
    | some p =>
      obtain ⟨m, c⟩ := p
      rw [h] at h6
      rw [← Nat.eq_of_beq_eq_true h6]
      rw [← h]; exact entry_pc h
  exact ⟨⟨n, _, he⟩, fun _ _ _ _ _ _ hW hH ha => pure_goes (X := ⟨P, laid, fun _ => none, planOf P⟩) (ctxI P laid fs) rfl rfl hW (fun base W0 hW => hfs.intr base W0 hW) (planOk_of h1 rfl) he h2 (Nat.le_of_ble_eq_true h3) (all_lt h4) hrun hd h5 hH ha⟩
end Go.Ideal

set_option maxRecDepth 1000000
namespace Go.Ideal
open Go.Proofs
abbrev kSS : EK := [.str, .str]
noncomputable def tab42 : List (Nat × List Value) := [(0, [.string ⟨#[97]⟩, .string ⟨#[98]⟩, .string ⟨#[99]⟩, .string ⟨#[97, 98]⟩, .string ⟨#[107, 49]⟩])]
noncomputable def X0 : Ctx := ctxI Tryz.prog tab42 []
noncomputable def st (f : FuncId) (n : Nat) (args : List Value) (H : IHeap) : Cfg := startC f (fillTmps 0 args .leaf) n (pcOf Tryz.prog f []) H
noncomputable def isGe (b : Nat) : Value := .func (.func f_ordmap_Map_Rank_c1) ⟨[]⟩ ⟨[.pointer (some ⟨b, 0, none⟩)]⟩
noncomputable def fstO (l : List (EK.C kSS)) (k : ByteArray) : IHeap := putL ⟨.leaf, 9⟩ [.vec kSS l true, .cells [.string k] 0 true]
noncomputable def fstT (l : List (EK.C kSS)) (k : ByteArray) (n : Nat) (low high : Int) : Cfg :=
  ⟨⟨f_ordmap_first, mkT [(0, .slice (some ⟨9, 0, some 0⟩) n capU), (1, isGe 10), (5, .int .i64 low), (6, .int .i64 high)], 27, [.code (pcOf Tryz.prog 71 [1, 1, 0, 0, 0]), .inLoop (pcOf Tryz.prog 71 [1, 1, 0, 0, 0]), .inBlock 0, .code (pcOf Tryz.prog 71 [1, 1, 1])], [], false, .normal, none⟩, [], fstO l k⟩
def fstS : Stop := ⟨f_ordmap_first, 0, 3, 11, [9, 10], [0, 1, 5, 6]⟩
theorem vc_fst0 (l : List (EK.C kSS)) (k : ByteArray) (n : Nat) (Q : Value → List (Option IObj) → Prop) (R : Cfg → Prop) : VCs X0 noPf f_ordmap_first [] fstS Q R 100 (st f_ordmap_first 27 [.slice (some ⟨9, 0, some 0⟩) n capU, isGe 10] (fstO l k)) = (
 (R (fstT l k n 0 (Int.ofNat n)))) := by kernel_rfl
theorem vc_fst (l : List (EK.C kSS)) (k : ByteArray) (n : Nat) (low high : Int) (Q : Value → List (Option IObj) → Prop) (R : Cfg → Prop) : VCs X0 noPf f_ordmap_first [] fstS Q R 200 (fstT l k n low high) = (
 (bif decide (low < high) then
  (bif decide (0 ≤ IntKind.wrap IntKind.i64 (Int.tdiv (IntKind.wrap IntKind.i64 (low + high)) 2)) && Nat.blt (Int.toNat (IntKind.wrap IntKind.i64 (Int.tdiv (IntKind.wrap IntKind.i64 (low + high)) 2))) n then
   (bif Nat.blt (0 + Int.toNat (IntKind.wrap IntKind.i64 (Int.tdiv (IntKind.wrap IntKind.i64 (low + high)) 2))) (List.length l) then
    (bif !Op.bytesLess (ByteArray.toList (Prod.fst (List.getD l (0 + Int.toNat (IntKind.wrap IntKind.i64 (Int.tdiv (IntKind.wrap IntKind.i64 (low + high)) 2))) (EK.dflt kSS)))) (ByteArray.toList k) then
     (R (fstT l k n low (IntKind.wrap IntKind.i64 (Int.tdiv (IntKind.wrap IntKind.i64 (low + high)) 2))))
    else
     (R (fstT l k n (IntKind.wrap IntKind.i64 (IntKind.wrap IntKind.i64 (Int.tdiv (IntKind.wrap IntKind.i64 (low + high)) 2) + 1)) high)))
   else
    False)
  else
   False)
 else
  (Q (.int IntKind.i64 low) []))) := by kernel_rfl
theorem vc_fstN (k : ByteArray) (Q : Value → List (Option IObj) → Prop) : VCp X0 noPf f_ordmap_first [] Q 100 (st f_ordmap_first 27 [.slice none 0 0, isGe 9] (putL ⟨.leaf, 9⟩ [.cells [.string k] 0 true])) = (
 (Q (.int IntKind.i64 0) [])) := by kernel_rfl
end Go.Ideal

namespace Go.Ideal
theorem wrap64 {x : Int} (h1 : -9223372036854775808 ≤ x) (h2 : x ≤ 9223372036854775807) : IntKind.wrap .i64 x = x := by
  show (if (true && decide (x % 18446744073709551616 ≥ 9223372036854775808)) = true then x % 18446744073709551616 - 18446744073709551616 else x % 18446744073709551616) = x
  simp only [Bool.true_and, decide_eq_true_eq]
  split <;> omega
theorem bif_decide {p : Prop} [Decidable p] {A B : Prop} (h1 : p → A) (h2 : ¬ p → B) : (bif decide p then A else B) := by
  by_cases h : p
  · rw [decide_eq_true h]; exact h1 h
  · rw [decide_eq_false h]; exact h2 h
theorem bif_true {b : Bool} {A B : Prop} (h : b = true) (h1 : A) : (bif b then A else B) := by rw [h]; exact h1
theorem bif_both {b : Bool} {A B : Prop} (h1 : b = true → A) (h2 : b = false → B) : (bif b then A else B) := by
  cases b
  · exact h2 rfl
  · exact h1 rfl
end Go.Ideal

namespace Go.Ideal
open Go.Proofs
def kLt (a b : ByteArray) : Bool := Op.bytesLess a.toList b.toList
theorem bytesLess_irrefl : ∀ l : List UInt8, Op.bytesLess l l = false := by
  intro l
  induction l with
  | nil => rfl
  | cons a l ih => simp [Op.bytesLess, ih]
theorem bytesLess_trans : ∀ a b c : List UInt8, Op.bytesLess a b = true → Op.bytesLess b c = true → Op.bytesLess a c = true := by
  intro a
  induction a with
  | nil => intro b c h1 h2; cases c with
    | nil => cases b <;> simp [Op.bytesLess] at h2
    | cons => rfl
  | cons x a ih =>
    intro b c h1 h2
    cases b with
    | nil => simp [Op.bytesLess] at h1
    | cons y b => cases c with
      | nil => simp [Op.bytesLess] at h2
      | cons z c =>
        simp only [Op.bytesLess, Bool.or_eq_true, Bool.and_eq_true, decide_eq_true_eq, beq_iff_eq] at h1 h2 ⊢
        rcases h1 with h1 | ⟨rfl, h1⟩
        · rcases h2 with h2 | ⟨rfl, h2⟩
          · exact .inl (UInt8.lt_trans h1 h2)
          · exact .inl h1
        · rcases h2 with h2 | ⟨rfl, h2⟩
          · exact .inl h2
          · exact .inr ⟨rfl, ih b c h1 h2⟩
theorem kLt_trans {a b c : ByteArray} (h1 : kLt a b = true) (h2 : kLt b c = true) : kLt a c = true := bytesLess_trans _ _ _ h1 h2
def sortedK (l : List (EK.C kSS)) : Prop := l.Pairwise fun x y => kLt x.1 y.1 = true
def rankK (l : List (EK.C kSS)) (k : ByteArray) : Nat := (l.takeWhile fun x => kLt x.1 k).length
theorem rankK_le (l : List (EK.C kSS)) (k : ByteArray) : rankK l k ≤ l.length := by
  induction l with
  | nil => exact Nat.le_refl _
  | cons x l ih =>
    unfold rankK at *
    rw [List.takeWhile_cons]
    split
    · simp only [List.length_cons]; omega
    · simp
theorem rankK_iff {l : List (EK.C kSS)} (hs : sortedK l) (k : ByteArray) : ∀ (i : Nat) (h : i < l.length), kLt (l[i]).1 k = true ↔ i < rankK l k := by
  induction l with
  | nil => intro i h; cases h
  | cons x l ih =>
    have hs' := List.pairwise_cons.1 hs
    have hr : rankK (x :: l) k = if kLt x.1 k then rankK l k + 1 else 0 := by
      unfold rankK
      rw [List.takeWhile_cons]
      split <;> rfl
    intro i h
    rw [hr]
    cases i with
    | zero =>
      by_cases c : kLt x.1 k = true
      · simp [c]
      · simp [c]
    | succ i =>
      have := ih hs'.2 i (by simpa using h)
      by_cases c : kLt x.1 k = true
      · rw [if_pos c]
        show kLt (l[i]'(by simpa using h)).1 k = true ↔ _
        rw [this]; omega
      · rw [if_neg c]
        show kLt (l[i]'(by simpa using h)).1 k = true ↔ _
        constructor
        · intro hk
          exact absurd (kLt_trans (hs'.1 _ (List.getElem_mem (by simpa using h))) hk) c
        · intro hz; omega
theorem fst_loop {l : List (EK.C kSS)} (hs : sortedK l) (k : ByteArray) (hn : l.length < 4611686018427387904) : ∀ (m low high : Nat), high - low = m → low ≤ rankK l k → rankK l k ≤ high → high ≤ l.length →
    EndsN X0 11 f_ordmap_first (fun v _ => v = .int .i64 (rankK l k)) (fstT l k l.length low high) := by
  intro m
  induction m using Nat.strongRecOn with
  | _ m ih =>
    intro low high hm h1 h2 h3
    refine VCs_ok (noPf_ok X0) (ids := []) (S := fstS) (by kernel_rfl) (Q := fun v _ => v = .int .i64 (rankK l k))
      (R := fun c => ∃ low' high' : Nat, c = fstT l k l.length low' high' ∧ high' - low' < m ∧ low' ≤ rankK l k ∧ rankK l k ≤ high' ∧ high' ≤ l.length) (fun v H h => h) (fun c ⟨low', high', e, g1, g2, g3, g4⟩ => by rw [e]; exact ih _ g1 low' high' rfl g2 g3 g4) 200 _ ?_
    rw [vc_fst]
    refine bif_decide (fun h => ?_) (fun h => ?_)
    · have hlt : low < high := by omega
      rw [wrap64 (x := (low : Int) + high) (by omega) (by omega)]
      have hmid : Int.tdiv ((low : Int) + (high : Int)) 2 = ((low + high) / 2 : Nat) := by
        rw [Int.tdiv_eq_ediv_of_nonneg (by omega)]; omega
      rw [hmid, wrap64 (x := (((low + high) / 2 : Nat) : Int)) (by omega) (by omega)]
      generalize hM : (low + high) / 2 = M
      have hM1 : low ≤ M ∧ M < high := by omega
      have hb : Nat.blt (Int.toNat (M : Int)) l.length = true := Nat.ble_eq_true_of_le (by rw [Int.toNat_natCast]; omega)
      have e1 : (decide ((0 : Int) ≤ (M : Int)) && Nat.blt (Int.toNat (M : Int)) l.length) = true := by rw [hb]; simp
      have e2 : Nat.blt (0 + Int.toNat (M : Int)) l.length = true := by rw [Nat.zero_add]; exact hb
      have hg : List.getD l (0 + Int.toNat (M : Int)) (EK.dflt kSS) = l[M]'(by omega) := by
        rw [Int.toNat_natCast, Nat.zero_add, List.getD_eq_getElem?_getD, List.getElem?_eq_getElem (by omega)]; rfl
      refine bif_true e1 (bif_true e2 ?_)
      rw [hg]
      have hiff := rankK_iff hs k M (by omega)
      refine bif_both (fun hc => ?_) (fun hc => ?_)
      · have hc : kLt (l[M]'(by omega)).1 k = false := by simpa [kLt] using hc
        have : ¬ M < rankK l k := fun hlt => by rw [hiff.2 hlt] at hc; cases hc
        exact ⟨low, M, rfl, by omega, h1, by omega, by omega⟩
      · have hc : kLt (l[M]'(by omega)).1 k = true := by simpa [kLt] using hc
        have := hiff.1 hc
        rw [wrap64 (x := (M : Int) + 1) (by omega) (by omega)]
        exact ⟨M + 1, high, rfl, by omega, by omega, h2, h3⟩
    · show Value.int .i64 _ = _
      have : low = rankK l k := by omega
      rw [this]
noncomputable def firstG (args : List Value) (objs : List IObj) : GT :=
  match args, objs with
  | [.slice (some ⟨9, 0, some 0⟩) n c, .func (.func 72) ⟨[]⟩ ⟨[.pointer (some ⟨10, 0, none⟩)]⟩], [.vec [.str, .str] l _, .cells [.string k] 0 _] => .ask (n = l.length ∧ c = capU ∧ sortedK l ∧ l.length < 4611686018427387904) (.ret ⟨.int .i64 (rankK l k), [], []⟩)
  | [.slice none 0 0, .func (.func 72) ⟨[]⟩ ⟨[.pointer (some ⟨9, 0, none⟩)]⟩], [.cells [.string _] 0 _] => .ret ⟨.int .i64 0, [], []⟩
  | _, _ => .fail
theorem tm_plain {laid : List (Nat × List Value)} {N m : Nat} {v : Value} {Hf : IHeap} {olds : List (Option IObj)} (hv : flatN 6 v = true) : TMatch laid N m [] ⟨v, olds, []⟩ v Hf :=
  ⟨[], List.nodup_nil, fun b hb => (by cases hb), rfl, ren_flat 6 v hv, fun j b o hj => (by cases hj), fun j o _ hm => (by cases hm)⟩
theorem iok_first : IOk Tryz.prog tab42 f_ordmap_first (footF tab42 9 [] firstG) := by
  refine iok_foot (fs := []) (AllOk.nil _ _) (by kernel_rfl) (n := 27) (by kernel_rfl) (by kernel_rfl) fun argsc objs x hx _ => ?_
  unfold firstG at hx
  split at hx
  · rename_i n c l ro k ro2 _
    simp only [GT.run] at hx
    split at hx
    · rename_i hc
      cases hx
      obtain ⟨rfl, rfl, hs, hn⟩ := hc
      refine ⟨by simp, ?_⟩
      have h0 : EndsN X0 11 f_ordmap_first (fun v _ => v = .int .i64 (rankK l k)) (st f_ordmap_first 27 [.slice (some ⟨9, 0, some 0⟩) l.length capU, isGe 10] (fstO l k)) := by
        refine VCs_ok (noPf_ok X0) (ids := []) (S := fstS) (by kernel_rfl) (Q := fun _ _ => False) (R := fun c => c = fstT l k l.length 0 (l.length : Int)) (fun v H h => h.elim) (fun c h => by
          rw [h]
          exact fst_loop hs k hn l.length 0 l.length (by omega) (by omega) (rankK_le l k) (Nat.le_refl _)) 100 _ ?_
        rw [vc_fst0]
        rfl
      refine EndsN.mono (Q := fun v _ => v = .int .i64 (rankK l k)) h0 fun v H h => ?_
      subst h
      exact tm_plain (by rfl)
    · cases hx
  · rename_i k ro _
    cases hx
    refine ⟨by simp, ?_⟩
    have h0 : EndsN X0 10 f_ordmap_first (fun v _ => v = .int .i64 0) (st f_ordmap_first 27 [.slice none 0 0, isGe 9] (putL ⟨.leaf, 9⟩ [.cells [.string k] 0 true])) :=
      EndsIn.toN (VCp_ok (noPf_ok X0) (ids := []) (Q := fun v _ => v = .int .i64 0) 100 _ (by rw [vc_fstN]))
    refine EndsN.mono (Q := fun v _ => v = .int .i64 0) h0 fun v H h => ?_
    subst h
    exact tm_plain (by rfl)
  · cases hx
end Go.Ideal

namespace Go.Ideal
theorem opened1 {H : IHeap} {b : Nat} {ro : Bool} {o o1 : IObj} (hlt : b < H.next) (hf : ∀ x, H.next ≤ x → H.get x = none) (h0 : renO (packRen b H.next 1) (roIf ro o) = some o1) : Opened H b ro [o] (H.put b o1) := by
  refine ⟨rfl, fun x hx _ => ?_, fun x hx => ?_, fun i p hp => ?_⟩
  · rw [IHeap.get_put, if_neg hx]
  · have hx : H.next ≤ x := hx
    rw [IHeap.get_put, if_neg (by omega)]; exact hf x hx
  · cases i with
    | zero => cases hp; exact ⟨o1, h0, by show (H.put b o1).get b = _; rw [IHeap.get_put, if_pos rfl]⟩
    | succ i => cases i <;> cases hp
theorem opened2 {H : IHeap} {b : Nat} {ro : Bool} {o o1 p p1 : IObj} (hlt : b < H.next) (hf : ∀ x, H.next ≤ x → H.get x = none) (h0 : renO (packRen b H.next 2) (roIf ro o) = some o1) (h1 : renO (packRen b H.next 2) (roIf ro p) = some p1) :
    Opened H b ro [o, p] ((H.put b o1).alloc p1) := by
  refine ⟨rfl, fun x hx hx2 => ?_, fun x hx => ?_, fun i q hq => ?_⟩
  · rw [IHeap.get_alloc, if_neg (by show x ≠ H.next; omega), IHeap.get_put, if_neg hx]
  · have hx : H.next + 1 ≤ x := hx
    rw [IHeap.get_alloc, if_neg (by show x ≠ H.next; omega), IHeap.get_put, if_neg (by omega)]; exact hf x (by omega)
  · cases i with
    | zero =>
      cases hq
      refine ⟨o1, h0, ?_⟩
      show ((H.put b o1).alloc p1).get b = _
      rw [IHeap.get_alloc, if_neg (by show b ≠ H.next; omega), IHeap.get_put, if_pos rfl]
    | succ i => cases i with
      | zero =>
        cases hq
        refine ⟨p1, h1, ?_⟩
        show ((H.put b o1).alloc p1).get H.next = _
        rw [IHeap.get_alloc, if_pos (show H.next = (H.put b o1).next from rfl)]
      | succ i => cases i <;> cases hq
theorem reach_one {H : IHeap} {b : Nat} {o : IObj} {r seen : List Nat} {f : Nat} (h : H.get b = some o) (hs : seen.any (Nat.beq b) = false) : reach2 H 0 (f + 1) (b :: r) seen = reach2 H 0 f (refsO2 o ++ r) (seen ++ [b]) := by
  rw [reach2]
  have : Nat.blt b 0 = false := rfl
  simp only [this, hs, Bool.or_false, cond_false, h]
theorem reach2_seen (H : IHeap) (N : Nat) : ∀ (f : Nat) (todo seen : List Nat) (x : Nat), x ∈ seen → x ∈ reach2 H N f todo seen
  | 0, _, _, _, h => h
  | f + 1, [], _, _, h => h
  | f + 1, b :: r, seen, x, h => by
    rw [reach2]
    cases hc : (Nat.blt b N || seen.any (Nat.beq b))
    · simp only [cond_false]
      split
      · exact reach2_seen H N f _ _ x (by simp [h])
      · exact reach2_seen H N f r seen x h
    · simp only [cond_true]
      exact reach2_seen H N f r seen x h
theorem shut1 {D : Nat → Prop} {v : Value} {H H2 : IHeap} {s : Pk} {b : Nat} {o o1 : IObj} (hr : pkReps s [o]) (hD : b ∈ refsN 4 v ∨ D b) (hg : H.get b = some o1) (hro : o1.ro = false) (hp : o1.packs = true) (hren : renO (fun i => [b][i]?) o = some o1)
    (k : ShutsTo D v (shutH s [b] H) H2)
    (hx0 : pkExt s = [] := by rfl) (hroot : ∀ T, ¬ o.void T := by intro _; exact id) : ShutsTo D v H H2 := by
  refine .step s [o] [b] [b] hr (by simp) rfl (by simp) (fun x hx => by simp at hx; rw [hx]; exact hD) (fun x hx => ?_) (fun i x q hx hq => ?_) (fun q T hq => by cases hq; exact hroot T) k
  · simp only [List.mem_singleton] at hx
    subst hx
    rw [reach_one hg rfl]
    exact reach2_seen H 0 _ _ _ x (by simp)
  · cases i with
    | zero => cases hx; cases hq; exact ⟨o1, hg, hro, hp, by rw [hx0, gren_nil]; exact hren⟩
    | succ i => cases i <;> cases hx
theorem shut2 {D : Nat → Prop} {v : Value} {H H2 : IHeap} {s : Pk} {b n : Nat} {o o1 p p1 : IObj} (hr : pkReps s [o, p]) (hD : b ∈ refsN 4 v ∨ D b) (hne : n ≠ b) (hg : H.get b = some o1) (hro : o1.ro = false) (hp : o1.packs = true) (hren : renO (fun i => [b, n][i]?) o = some o1)
    (href : refsO2 o1 = [n]) (hg2 : H.get n = some p1) (hro2 : p1.ro = false) (hp2 : p1.packs = true) (hren2 : renO (fun i => [b, n][i]?) p = some p1) (k : ShutsTo D v (shutH s [b, n] H) H2)
    (hx0 : pkExt s = [] := by rfl) (hroot : ∀ T, ¬ o.void T := by intro _; exact id) : ShutsTo D v H H2 := by
  have hn : Nat.beq n b = false := by
    cases hq : Nat.beq n b
    · rfl
    · exact absurd (Nat.eq_of_beq_eq_true hq) hne
  have hreach : ∀ x, x = b ∨ x = n → x ∈ reach2 H 0 200 [b] [] := by
    intro x hx
    rw [reach_one hg rfl, href, List.append_nil, List.nil_append, reach_one hg2 (by simp [hn])]
    refine reach2_seen H 0 _ _ _ x ?_
    rcases hx with rfl | rfl <;> simp
  refine .step s [o, p] [b, n] [b] hr (by simp) rfl (by simp [Ne.symm hne]) (fun x hx => by simp at hx; rw [hx]; exact hD) (fun x hx => hreach x (by simpa using hx)) (fun i x q hx hq => ?_) (fun q T hq => by cases hq; exact hroot T) k
  cases i with
  | zero => cases hx; cases hq; exact ⟨o1, hg, hro, hp, by rw [hx0, gren_nil]; exact hren⟩
  | succ i => cases i with
    | zero => cases hx; cases hq; exact ⟨p1, hg2, hro2, hp2, by rw [hx0, gren_nil]; exact hren2⟩
    | succ i => cases i <;> cases hx
end Go.Ideal

set_option maxRecDepth 1000000
namespace Go.Ideal
open Go.Proofs
theorem pf_cons {X : Ctx} {f : FuncId} {p : PFun} {rest : Pf} (h : ∀ args H (K : Value → IHeap → Prop), p args H K → ∃ v H', intrAt X f args .normal H = some (v, H') ∧ K v H') (hr : PfOk X rest) : PfOk X (fun g => bif Nat.beq g f then some p else rest g) := by
  intro g F hg args H K hF
  cases hb : Nat.beq g f
  · simp only [hb, cond_false] at hg
    exact hr g F hg args H K hF
  · simp only [hb, cond_true, Option.some.injEq] at hg
    subst hg
    have := Nat.eq_of_beq_eq_true hb; subst this
    exact h args H K hF
noncomputable def fsA : List (FuncId × IFun) := [(f_ordmap_first, footF tab42 9 [] firstG)]
noncomputable def XA : Ctx := ctxI Tryz.prog tab42 fsA
noncomputable def pfA : Pf := fun g => bif Nat.beq g f_ordmap_first then some (footPf tab42 9 [] firstG) else noPf g
theorem pfA_ok : PfOk XA pfA := pf_cons (fun _ _ _ h => footPf_ok (by kernel_rfl) h) (noPf_ok _)
theorem allA : AllOk Tryz.prog tab42 fsA := AllOk.cons iok_first (AllOk.nil _ _)
noncomputable def tblN : List IObj := [.cells [.bool true, .slice none 0 0] 0 false]
noncomputable def tblL (l : List (EK.C kSS)) : List IObj := [.cells [.bool true, .slice (some ⟨10, 0, some 0⟩) l.length capU] 0 false, .vec kSS l false]
noncomputable def p9 : Value := .pointer (some ⟨9, 0, none⟩)
end Go.Ideal

set_option maxRecDepth 1000000
namespace Go.Ideal
open Go.Proofs
def IsTbl (H : IHeap) (l : List (EK.C kSS)) : Prop :=
  (l = [] ∧ H.get 9 = some (.cells [.bool true, .slice none 0 0] 0 false)) ∨ ∃ m, m ≠ 9 ∧ H.get 9 = some (.cells [.bool true, .slice (some ⟨m, 0, some 0⟩) l.length capU] 0 false) ∧ H.get m = some (.vec kSS l false)
structure TblF where
  ok : List (EK.C kSS) → List Value → Prop
  v : List (EK.C kSS) → List Value → Value
  nx : List (EK.C kSS) → List Value → List (EK.C kSS)
noncomputable def TblF.G (q : TblF) (args : List Value) (objs : List IObj) : GT :=
  match args, objs with
  | .pointer (some ⟨9, 0, none⟩) :: rest, [.abs (.pack (.table l)) _] => .ask (q.ok l rest) (.ret ⟨q.v l rest, [some (.abs (.pack (.table (q.nx l rest))) false)], []⟩)
  | _, _ => .fail
noncomputable def tbl0 (l : List (EK.C kSS)) : IHeap := putL ⟨.leaf, 9⟩ [.abs (.pack (.table l)) false]
theorem tbl0_top (l : List (EK.C kSS)) : ∀ x, 10 ≤ x → (tbl0 l).get x = none := by
  intro x hx
  unfold tbl0
  rw [putL_get]
  show (if x < 9 then _ else _) = _
  rw [if_neg (by omega), List.getElem?_eq_none (by simp; omega)]
  rfl
theorem openN_eq : (tbl0 []).put 9 (.cells [.bool true, .slice none 0 0] 0 false) = putL ⟨.leaf, 9⟩ tblN := by kernel_rfl
theorem openL_eq (l : List (EK.C kSS)) : ((tbl0 l).put 9 (.cells [.bool true, .slice (some ⟨10, 0, some 0⟩) l.length capU] 0 false)).alloc (.vec kSS l false) = putL ⟨.leaf, 9⟩ (tblL l) := by kernel_rfl
theorem tm_tbl {v : Value} {H : IHeap} {l : List (EK.C kSS)} (hv : flatN 6 v = true) (h : H.get 9 = some (.abs (.pack (.table l)) false)) : TMatch tab42 9 1 [true] ⟨v, [some (.abs (.pack (.table l)) false)], []⟩ v H := by
  refine ⟨[], List.nodup_nil, fun b hb => (by cases hb), rfl, ren_flat 6 v hv, fun j b o hj => (by cases hj), fun j o hj hm ho => ?_⟩
  cases j with
  | zero => cases ho; exact ⟨_, rfl, h⟩
  | succ j => omega
theorem iok_tbl {fs : List (FuncId × IFun)} (hfs : AllOk Tryz.prog tab42 fs) {f : FuncId} {n : Nat} (he : entry Tryz.prog f = some (n, pcOf Tryz.prog f [])) {q : TblF}
    (hrun : ∀ l rest, q.ok l rest → rest.length + 1 ≤ n ∧ flatN 6 (q.v l rest) = true ∧ refsN 4 (q.v l rest) = [] ∧
      (l = [] → EndsN (ctxI Tryz.prog tab42 fs) 10 f (fun v H => v = q.v l rest ∧ IsTbl H (q.nx l rest)) (st f n (p9 :: rest) (putL ⟨.leaf, 9⟩ tblN))) ∧
      EndsN (ctxI Tryz.prog tab42 fs) 10 f (fun v H => v = q.v l rest ∧ IsTbl H (q.nx l rest)) (st f n (p9 :: rest) (putL ⟨.leaf, 9⟩ (tblL l)))) : IOk Tryz.prog tab42 f (footF tab42 9 [true] q.G) := by
  refine iok_footD hfs (by kernel_rfl) he (by kernel_rfl) fun argsc objs x hx hro => ?_
  unfold TblF.G at hx
  split at hx
  · rename_i rest l ro
    simp only [GT.run] at hx
    split at hx
    · rename_i hok
      cases hx
      have hr0 : ro = false := hro 0 _ rfl rfl
      subst hr0
      obtain ⟨g1, g2, g3, g4, g5⟩ := hrun l rest hok
      refine ⟨by simpa using g1, ?_⟩
      refine EndsD.shut (Q := fun v H => v = q.v l rest ∧ IsTbl H (q.nx l rest)) ?_ ?_
      · show EndsD (ctxI Tryz.prog tab42 fs) 10 (fun b => 9 ≤ b ∧ b < 10) f _ (st f n (p9 :: rest) (tbl0 l))
        refine EndsD.opened (b := 9) (s := .table l) (ro := false) ⟨by omega, by omega⟩ (by rfl) (fun ops p k h => by cases h) fun objs hr => ?_
        cases hr with
        | tableNil =>
          have hN : EndsD (ctxI Tryz.prog tab42 fs) 10 (fun b => 9 ≤ b ∧ b < 10) f (fun v H => v = q.v [] rest ∧ IsTbl H (q.nx [] rest)) (st f n (p9 :: rest) ((tbl0 []).put 9 (.cells [.bool true, .slice none 0 0] 0 false))) := by
            rw [openN_eq]; exact (g4 rfl).toD
          exact ⟨_, opened1 (H := tbl0 []) (b := 9) (ro := false) (o1 := .cells [.bool true, .slice none 0 0] 0 false) (show 9 < 10 by decide) (tbl0_top []) rfl, hN⟩
        | table l =>
          have hN : EndsD (ctxI Tryz.prog tab42 fs) 10 (fun b => 9 ≤ b ∧ b < 10) f (fun v H => v = q.v l rest ∧ IsTbl H (q.nx l rest)) (st f n (p9 :: rest) (((tbl0 l).put 9 (.cells [.bool true, .slice (some ⟨10, 0, some 0⟩) l.length capU] 0 false)).alloc (.vec kSS l false))) := by
            rw [openL_eq]; exact g5.toD
          exact ⟨_, opened2 (H := tbl0 l) (b := 9) (ro := false) (o1 := .cells [.bool true, .slice (some ⟨10, 0, some 0⟩) l.length capU] 0 false) (p1 := .vec kSS l false) (show 9 < 10 by decide) (tbl0_top l) rfl rfl, hN⟩
      · rintro v H ⟨rfl, hT⟩
        rcases hT with ⟨e, h9⟩ | ⟨m, hm, h9, hm2⟩
        · refine ⟨_, shut1 (s := .table (q.nx l rest)) (o := .cells [.bool true, .slice none 0 0] 0 false) (by rw [e]; exact .tableNil) (.inr ⟨Nat.le_refl 9, Nat.lt_succ_self 9⟩) h9 rfl rfl rfl (.refl _), tm_tbl g2 ?_⟩
          exact (shutH_ok (by simp)).root 9 rfl
        · refine ⟨_, shut2 (s := .table (q.nx l rest)) (n := m) (.table _) (.inr ⟨Nat.le_refl 9, Nat.lt_succ_self 9⟩) hm h9 rfl rfl rfl rfl hm2 rfl rfl rfl (.refl _), tm_tbl g2 ?_⟩
          exact (shutH_ok (by simp [Ne.symm hm])).root 9 rfl
    · cases hx
  · cases hx
end Go.Ideal

set_option maxRecDepth 1000000
namespace Go.Ideal
open Go.Proofs
theorem get1 {v : Value} {H : IHeap} {o : IObj} (hv : refsN 4 v = []) (h : ([9] ++ refsN 4 v).map H.get = [some o]) : H.get 9 = some o := by
  rw [hv] at h
  simpa using h
theorem get2 {v : Value} {H : IHeap} {m : Nat} {o p : IObj} (hv : refsN 4 v = []) (h : ([9, m] ++ refsN 4 v).map H.get = [some o, some p]) : H.get 9 = some o ∧ H.get m = some p := by
  rw [hv] at h
  simpa using h
end Go.Ideal

set_option linter.unusedVariables false
set_option linter.unusedSimpArgs false
namespace Go.Ideal
variable {P : Program}

theorem run_copy_cellsK (w : World) (dT sT ty elem : TypeId) (k b o dLen dCap : Nat) (a : Addr) (sLen sCap m : Nat) (cs : List Value)
    (hu : P.underlying dT = some (.slice elem)) (hs : (P.info? elem).map (·.size) = some k) (hm : m = Nat.min sLen dLen) (hn : cs.length = m * k)
    (hsrc : ∀ j v, cs[j]? = some v → w.cell? (a.add j) = some v) (hc : ∀ j, j < cs.length → (w.cell? ⟨b, o + j, none⟩).isSome = true) (hf : ∀ j, j < cs.length → w.frozen? ⟨b, o + j, none⟩ = false) (h1 : ∀ v ∈ cs, v.oneCell' = true) :
    (Builtin.copy_ #[dT, sT] ty #[.slice (some ⟨b, o, none⟩) dLen dCap, .slice (some a) sLen sCap]).run P w = .ok (goInt m) (w.setCells b o cs) := by
  have hl := run_loadCells_list (P := P) w a cs hsrc
  have hst := run_storeCells_cells (P := P) b o cs 0 w (by simpa using hc) (by simpa using hf) h1
  cases hq : P.info? elem with
  | none => simp [hq] at hs
  | some i =>
    have hi : i.size = k := by simpa [hq] using hs
    simp [Builtin.copy_, run_underlying hu, Builtin.lenOf, Builtin.firstCells, sizeOf, typeInfo, hq, hi, ← hm, ← hn, hl, hst]

end Go.Ideal

set_option linter.unusedVariables false
set_option linter.unusedSimpArgs false
namespace Go.Ideal
open Go.Proofs Go.RowKit Go.Lib
set_option maxHeartbeats 4000000 in
set_option maxRecDepth 100000 in
theorem ins69_shift (b off n c i vb voff m vc : Nat) (cs vs : List Value) (w : World) (hi : i < n) (hm : 0 < m) (hroom : n + m ≤ c) (hc63 : c ≤ 9223372036854775807) (hvb : vb ≠ b)
    (hcl : cs.length = n * 2) (hvl : vs.length = m * 2)
    (hcs : ∀ j v, cs[j]? = some v → w.cell? ⟨b, off + j, none⟩ = some v) (hsp : ∀ j, j < (n + m) * 2 → (w.cell? ⟨b, off + j, none⟩).isSome = true) (hfz : ∀ j, j < (n + m) * 2 → w.frozen? ⟨b, off + j, none⟩ = false)
    (hvs : ∀ j v, vs[j]? = some v → w.cell? ⟨vb, voff + j, none⟩ = some v) (h1c : ∀ v ∈ cs, v.oneCell' = true) (h1v : ∀ v ∈ vs, v.oneCell' = true)
    (tA tB : TypeId) (kA kB : Nat) (hsa : w.shape? vb = some (tA, kA)) (hsb : w.shape? b = some (tB, kB)) (hkB : kB ≠ 0) (hfa : w.frozen? ⟨vb, voff, none⟩ = false) (hfe : w.frozen? ⟨vb, kA, none⟩ = false) :
    Calls Tryz.prog 69 #[.slice (some ⟨b, off, none⟩) n c, .int .i64 i, .slice (some ⟨vb, voff, none⟩) m vc] w fun e w' =>
      e = .returned (.slice (some ⟨b, off, none⟩) (n + m) c) ∧ w' = (w.drew.setCells b (off + (i + m) * 2) (cs.drop (i * 2))).setCells b (off + i * 2) vs := by
  have mixed : Tryz.prog.follows .mixedOrders = true := by kernel_rfl
  have hz1 : ¬ ((m : Int) = 0) := by omega
  have hz2 : ¬ ((i : Int) = (n : Int)) := by omega
  have hsz : (Tryz.prog.info? 101).map (·.size) = some 2 := by kernel_rfl
  have hov : ∀ lb cb, (callFunc 73 #[.slice (some ⟨vb, voff, none⟩) m vc, .slice (some ⟨b, off + (i + m) * 2, none⟩) lb cb]).run Tryz.prog w = .ok (.value (.bool false)) w := fun lb cb => by
    rw [run_callFunc_extern Tryz.func73 (by kernel_rfl) (by kernel_rfl) (by kernel_rfl) (e := Extern.SlicesOverlaps.overlaps #[95, 95] #[4]) (by kernel_rfl),
      Lib.run_overlaps_apart w 95 4 101 Tryz.underlying95 2 (fun w => Tryz.sizeOf101 w) ⟨vb, voff, none⟩ ⟨b, off + (i + m) * 2, none⟩ m vc lb cb hvb tA tB kA kB hsa hsb hkB hfa hfe]
    rfl
  have hdl : (cs.drop (i * 2)).length = (n - i) * 2 := by rw [List.length_drop, hcl, Nat.sub_mul]
  have hw1 : IntKind.i64.wrap ((i : Int) + (m : Int)) = (i : Int) + (m : Int) := by rw [IntKind.wrap_i64]; omega
  have hb1 : (0 : Int) ≤ (i : Int) + (m : Int) := by omega
  have hin : i ≤ n := by omega
  have htn : ((i : Int) + (m : Int)).toNat = i + m := by omega
  have hb2 : ¬ (c = i + m) := by omega
  have hb3 : (i : Int) ≤ (n : Int) + (m : Int) := by omega
  have hb4 : ¬ (c = i) := by omega
  have hcp1 : ∀ ty dc sc, (Builtin.copy_ #[95, 95] ty #[.slice (some ⟨b, off + (i + m) * 2, none⟩) (n + m - (i + m)) dc, .slice (some ⟨b, off + i * 2, none⟩) (n + m - i) sc]).run Tryz.prog w.drew = .ok (goInt ((n - i : Nat) : Int)) (w.drew.setCells b (off + (i + m) * 2) (cs.drop (i * 2))) := fun ty dc sc =>
    run_copy_cellsK w.drew _ _ ty 101 2 b (off + (i + m) * 2) (n + m - (i + m)) dc ⟨b, off + i * 2, none⟩ (n + m - i) sc (n - i) (cs.drop (i * 2)) Tryz.underlying95 hsz (by simp only [Nat.min_def]; split <;> omega) hdl
      (fun j v hj => by rw [Addr.add_lit, Nat.add_assoc]; exact hcs (i * 2 + j) v (by rwa [List.getElem?_drop] at hj))
      (fun j hj => by rw [Nat.add_assoc]; exact hsp _ (by omega)) (fun j hj => by rw [Nat.add_assoc]; exact hfz _ (by omega)) (fun v hv => h1c v (List.mem_of_mem_drop hv))
  obtain ⟨W1, hW1⟩ : ∃ W1, W1 = w.drew.setCells b (off + (i + m) * 2) (cs.drop (i * 2)) := ⟨_, rfl⟩
  have hsp1 : ∀ k, k < (n + m) * 2 → (W1.cell? ⟨b, off + k, none⟩).isSome = true := fun k hk => by
    rw [hW1]
    exact isSome_setCells b _ _ _ (fun j hj => by rw [Nat.add_assoc]; exact hsp _ (by omega)) _ (hsp k hk)
  have hcp2 : ∀ (W : World), (∀ x, W.cell? x = W1.cell? x) → (∀ x, W.frozen? x = W1.frozen? x) → ∀ ty dc, (Builtin.copy_ #[95, 95] ty #[.slice (some ⟨b, off + i * 2, none⟩) (n + m - i) dc, .slice (some ⟨vb, voff, none⟩) m vc]).run Tryz.prog W = .ok (goInt m) (W.setCells b (off + i * 2) vs) := fun W hWc hWf ty dc =>
    run_copy_cellsK W _ _ ty 101 2 b (off + i * 2) (n + m - i) dc ⟨vb, voff, none⟩ m vc m vs Tryz.underlying95 hsz (by simp only [Nat.min_def]; split <;> omega) hvl
      (fun j v hj => by
        rw [Addr.add_lit, hWc, hW1, World.cell?_setCells_out b _ _ _ _ (fun h _ => absurd h hvb)]
        exact hvs j v hj)
      (fun j hj => by rw [hWc, Nat.add_assoc]; exact hsp1 _ (by omega)) (fun j hj => by rw [hWf, hW1, World.frozen?_setCells, Nat.add_assoc]; exact hfz _ (by omega)) h1v
  rw [← hW1] at hcp1
  go_enter Tryz.func69, Tryz.ntmps69
  go_wp2_with (simp only [hov])
  go_region_law_o (refine step_copy_runI rfl _ _ 95 95 rfl _ _ (by simp [Act.eval, Act.put]) (by simp [Act.eval, Act.put]) (hcp1 _ _ _) ?_)
  go_wp2_with (at_builtin; refine wpList_copy_runI _ rfl _ _ 95 95 rfl _ _ rfl rfl (hcp2 _ (fun _ => rfl) (fun _ => rfl) _ _) ?_)
  go_ret
  first | exact ⟨rfl, rfl⟩ | exact ⟨rfl, by rw [hW1]⟩

set_option maxHeartbeats 4000000 in
set_option maxRecDepth 100000 in
theorem ins69_grow (b off n c i vb voff m vc : Nat) (cs vs : List Value) (w : World) (hi : i < n) (hm : 0 < m) (hnc : n ≤ c) (hroom : c < n + m) (hbig : (2 * (n + m) + 192) * 32 ≤ 281474976710656)
    (hcl : cs.length = n * 2) (hvl : vs.length = m * 2)
    (hcs : ∀ j v, cs[j]? = some v → w.cell? ⟨b, off + j, none⟩ = some v)
    (hvs : ∀ j v, vs[j]? = some v → w.cell? ⟨vb, voff + j, none⟩ = some v) (h1c : ∀ v ∈ cs, v.oneCell' = true) (h1v : ∀ v ∈ vs, v.oneCell' = true) :
    Calls Tryz.prog 69 #[.slice (some ⟨b, off, none⟩) n c, .int .i64 i, .slice (some ⟨vb, voff, none⟩) m vc] w fun e w' =>
      ∃ (G : Nat) (ROW : Array Value), n + m ≤ G ∧ ROW.size = G * 2 ∧ ROW.toList.take (i * 2) = cs.take (i * 2) ∧ e = .returned (.slice (some ⟨w.heap.size, 0, none⟩) (n + m) G) ∧ G ≤ 9223372036854775807 ∧
        w' = (((w.alloc (.cells ROW 101)).drew.setCells w.heap.size (i * 2) vs).drew).setCells w.heap.size ((i + m) * 2) (cs.drop (i * 2)) := by
  have mixed : Tryz.prog.follows .mixedOrders = true := by kernel_rfl
  obtain ⟨i0, z0, hi0, hz0, hzs, hzb, hzc⟩ : ∃ i0 z0, Tryz.prog.info? 101 = some i0 ∧ i0.zero = some z0 ∧ i0.size = 2 ∧ i0.bytes = 32 ∧ z0.cells.size = 2 := ⟨Tryz.t101, Tryz.t101.zero.getD default, by kernel_rfl, by kernel_rfl, by kernel_rfl, by kernel_rfl, by kernel_rfl⟩
  have hz1 : ¬ ((m : Int) = 0) := by omega
  have hz2 : ¬ ((i : Int) = (n : Int)) := by omega
  have hz3 : (c : Int) < (n : Int) + (m : Int) := by omega
  have hsz : (Tryz.prog.info? 101).map (·.size) = some 2 := by rw [hi0]; simp [hzs]
  have hbw : b < w.heap.size := block_lt_of_cell (hcs 0 _ (List.getElem?_eq_getElem (by omega)))
  have hvw : vb < w.heap.size := block_lt_of_cell (hvs 0 _ (List.getElem?_eq_getElem (by omega)))
  have hkk : (n : Int) + (m : Int) - (i : Int) = ((n + m - i : Nat) : Int) := by omega
  have hik : i + (n + m - i) = n + m := by omega
  have hold : (Builtin.firstCells i0.size i (.slice (some ⟨b, off, none⟩) i c)).run Tryz.prog w.drew = .ok (cs.take (i * 2)).toArray w.drew := by
    rw [hzs]
    exact run_firstCells_some w.drew 2 i ⟨b, off, none⟩ i c (cs.take (i * 2)) (by rw [List.length_take]; omega) (fun j v hj => by
      rw [Addr.add_lit]
      rw [List.getElem?_take] at hj
      split at hj
      · exact hcs j v hj
      · cases hj)
  have hncl := nextcap_le (need := n + m) (cap := c) hroom
  have hfits : Builtin.nextslicecap (n + m) c * 32 ≤ 281474976710656 := Nat.le_trans (Nat.mul_le_mul_right _ hncl) hbig
  have hrz : ∀ ty, (Builtin.append_ #[95, 3] ty #[.slice (some ⟨b, off, none⟩) i c, .int .i64 ((n : Int) + (m : Int) - (i : Int))]).run Tryz.prog w =
      .ok (.slice (some ⟨w.heap.size, 0, none⟩) (n + m) (grownCap w (n + m) c 101)) (w.drew.alloc (.cells ((cs.take (i * 2)).toArray ++ Builtin.zeroCells z0.cells (n + m - i) ++ Builtin.zeroCells z0.cells (grownCap w (n + m) c 101 - (n + m))) 101)) := fun ty => by
    have h := Lib.run_append_grow_zeros w 95 3 ty 101 i0 _ .i64 .i64 Tryz.underlying95 Tryz.underlying3 hi0 hz0 (some ⟨b, off, none⟩) i c (cs.take (i * 2)) hold (n + m - i) (by omega) (by omega) (by omega) (by omega) (by rw [hzb]; omega) (by rw [hzb, hik]; exact hfits)
    rw [hik] at h
    rw [hkk]
    exact h
  obtain ⟨G, hG⟩ : ∃ G, G = grownCap w (n + m) c 101 := ⟨_, rfl⟩
  have hGn : n + m ≤ G := by rw [hG]; exact grownCap_ge w _ _ _
  obtain ⟨ROW, hROW⟩ : ∃ ROW : Array Value, ROW = (cs.take (i * 2)).toArray ++ Builtin.zeroCells z0.cells (n + m - i) ++ Builtin.zeroCells z0.cells (G - (n + m)) := ⟨_, rfl⟩
  rw [← hG] at hrz
  rw [← hROW] at hrz
  have hRl : ROW.size = G * 2 := by
    rw [hROW]
    simp [zeroCells_len, hzc, hcl]
    omega
  have hRt : ROW.toList.take (i * 2) = cs.take (i * 2) := by
    rw [hROW]
    simp only [Array.toList_append, List.append_assoc]
    rw [List.take_append_of_le_length (by simp [hcl]; omega), List.take_take, Nat.min_self]
  obtain ⟨W1, hW1⟩ : ∃ W1, W1 = w.drew.alloc (.cells ROW 101) := ⟨_, rfl⟩
  rw [← hW1] at hrz
  have hN : ∀ j, j < (n + m) * 2 → (W1.cell? ⟨w.heap.size, j, none⟩).isSome = true := fun j hj => by
    rw [hW1, World.cell?_alloc_at (w := w.drew) ROW _ w.heap.size j rfl, Array.getElem?_eq_getElem (by omega)]; rfl
  have hNf : ∀ j, W1.frozen? ⟨w.heap.size, j, none⟩ = false := fun j => by rw [hW1]; exact World.frozen?_alloc_at (w := w.drew) ROW _ w.heap.size j rfl
  have hOb : ∀ j v, w.cell? ⟨b, j, none⟩ = some v → W1.cell? ⟨b, j, none⟩ = some v := fun j v h => by rw [hW1, World.cell?_alloc_past (w := w.drew) _ b j hbw]; exact h
  have hOv : ∀ j v, w.cell? ⟨vb, j, none⟩ = some v → W1.cell? ⟨vb, j, none⟩ = some v := fun j v h => by rw [hW1, World.cell?_alloc_past (w := w.drew) _ vb j hvw]; exact h
  have hcpA : ∀ (W : World), (∀ x, W.cell? x = W1.cell? x) → (∀ x, W.frozen? x = W1.frozen? x) → ∀ ty dc, (Builtin.copy_ #[95, 95] ty #[.slice (some ⟨w.heap.size, i * 2, none⟩) (n + m - i) dc, .slice (some ⟨vb, voff, none⟩) m vc]).run Tryz.prog W = .ok (goInt m) (W.setCells w.heap.size (i * 2) vs) := fun W hWc hWf ty dc =>
    run_copy_cellsK W _ _ ty 101 2 w.heap.size (i * 2) (n + m - i) dc ⟨vb, voff, none⟩ m vc m vs Tryz.underlying95 hsz (by simp only [Nat.min_def]; split <;> omega) hvl
      (fun j v hj => by rw [Addr.add_lit, hWc]; exact hOv _ v (hvs j v hj))
      (fun j hj => by rw [hWc]; exact hN _ (by omega)) (fun j hj => by rw [hWf]; exact hNf _) h1v
  have hG63 : G ≤ 9223372036854775807 := by
    have := grownCap_le_maxLen w (n + m) c 101 (by unfold maxLen; omega)
    rw [← hG] at this
    unfold maxLen at this
    omega
  have hGi : ¬ (G = i) := by omega
  have hGim : ¬ (G = i + m) := by omega
  have hci : ¬ (c = i) := by omega
  have hbN : b ≠ w.heap.size := by omega
  have hdl : (cs.drop (i * 2)).length = (n - i) * 2 := by rw [List.length_drop, hcl, Nat.sub_mul]
  have hcpB : ∀ (W : World), (∀ x, W.cell? x = (W1.setCells w.heap.size (i * 2) vs).cell? x) → (∀ x, W.frozen? x = (W1.setCells w.heap.size (i * 2) vs).frozen? x) → ∀ ty dc sc, (Builtin.copy_ #[95, 95] ty #[.slice (some ⟨w.heap.size, (i + m) * 2, none⟩) (n + m - (i + m)) dc, .slice (some ⟨b, off + i * 2, none⟩) (n - i) sc]).run Tryz.prog W = .ok (goInt ((n - i : Nat) : Int)) (W.setCells w.heap.size ((i + m) * 2) (cs.drop (i * 2))) := fun W hWc hWf ty dc sc =>
    run_copy_cellsK W _ _ ty 101 2 w.heap.size ((i + m) * 2) (n + m - (i + m)) dc ⟨b, off + i * 2, none⟩ (n - i) sc (n - i) (cs.drop (i * 2)) Tryz.underlying95 hsz (by simp only [Nat.min_def]; split <;> omega) hdl
      (fun j v hj => by
        rw [Addr.add_lit, hWc, World.cell?_setCells_out _ _ _ _ _ (fun h _ => absurd h hbN), Nat.add_assoc]
        exact hOb _ v (hcs (i * 2 + j) v (by rwa [List.getElem?_drop] at hj)))
      (fun j hj => by rw [hWc]; exact isSome_setCells _ _ _ _ (fun t ht => hN _ (by omega)) _ (hN _ (by omega)))
      (fun j hj => by rw [hWf, World.frozen?_setCells]; exact hNf _) (fun v hv => h1c v (List.mem_of_mem_drop hv))
  subst hW1
  have hE1 : ∀ x, ((w.alloc (.cells ROW 101)).drew).cell? x = (w.drew.alloc (.cells ROW 101)).cell? x := fun x => rfl
  have hE2 : ∀ x, ((w.alloc (.cells ROW 101)).drew).frozen? x = (w.drew.alloc (.cells ROW 101)).frozen? x := fun x => rfl
  have hF1 : ∀ x, (((w.alloc (.cells ROW 101)).drew.setCells w.heap.size (i * 2) vs).drew).cell? x = ((w.drew.alloc (.cells ROW 101)).setCells w.heap.size (i * 2) vs).cell? x := fun x => rfl
  have hF2 : ∀ x, (((w.alloc (.cells ROW 101)).drew.setCells w.heap.size (i * 2) vs).drew).frozen? x = ((w.drew.alloc (.cells ROW 101)).setCells w.heap.size (i * 2) vs).frozen? x := fun x => rfl
  have hw1 : IntKind.i64.wrap ((i : Int) + (m : Int)) = (i : Int) + (m : Int) := by rw [IntKind.wrap_i64]; omega
  have hb1 : (0 : Int) ≤ (i : Int) + (m : Int) := by omega
  have hin : i ≤ n := by omega
  have htn : ((i : Int) + (m : Int)).toNat = i + m := by omega
  have hb3 : (i : Int) ≤ (n : Int) := by omega
  clear hkk hik hold hROW hG hncl hfits
  go_enter Tryz.func69, Tryz.ntmps69
  go_wp2_with (first
    | (at_builtin; refine Lib.wpList_append_run _ rfl _ _ _ _ rfl _ _ rfl rfl _ _ (hrz _) ?_)
    | (at_builtin; refine wpList_copy_runI _ rfl _ _ 95 95 rfl _ _ rfl rfl (hcpA _ hE1 hE2 _ _) ?_)
    | (at_builtin; refine wpList_copy_runI _ rfl _ _ 95 95 rfl _ _ rfl rfl (hcpB _ (fun _ => rfl) (fun _ => rfl) _ _ _) ?_))
  go_region_law_o (refine step_copy_runI rfl _ _ 95 95 rfl (.slice (some ⟨w.heap.size, (i + m) * 2, none⟩) (n + m - (i + m)) (G - (i + m))) (.slice (some ⟨b, off + i * 2, none⟩) (n - i) (c - i)) (by simp [Act.eval, Act.put]) (by simp [Act.eval, Act.put]) (hcpB _ hF1 hF2 3 (G - (i + m)) (c - i)) ?_)
  go_wp2
  go_ret
  exact ⟨G, ROW, hGn, hRl, hRt, rfl, hG63, rfl⟩
end Go.Ideal

set_option linter.unusedVariables false
set_option linter.unusedSimpArgs false
namespace Go.Ideal
variable {P : Program}
theorem run_clear_sliceK (w : World) (t e ty : TypeId) (z : Value) (ht : P.underlying t = some (.slice e)) (hv : ∀ w, (zeroValue e).run P w = .ok z w) (h1 : ∀ v ∈ z.cells.toList, v.oneCell' = true) (b o n c : Nat) (hn : 0 < n)
    (hc : ∀ j, j < n * z.cells.size → (w.cell? ⟨b, o + j, none⟩).isSome = true) (hf : ∀ j, j < n * z.cells.size → w.frozen? ⟨b, o + j, none⟩ = false) :
    (Builtin.clear_ #[t] ty #[.slice (some ⟨b, o, none⟩) n c]).run P w = .ok (.tuple #[]) (w.setCells b o (Builtin.zeroCells z.cells n).toList) := by
  have hl : (Builtin.zeroCells z.cells n).toList.length = n * z.cells.size := by simp [Builtin.zeroCells]
  have hm : ∀ v ∈ (Builtin.zeroCells z.cells n).toList, v.oneCell' = true := by
    intro v hv'
    simp only [Builtin.zeroCells, Array.toList_map, List.mem_map] at hv'
    obtain ⟨i, hi, rfl⟩ := hv'
    have hi : i < n * z.cells.size := by simpa using hi
    have hp : 0 < z.cells.size := by
      rcases Nat.eq_zero_or_pos z.cells.size with h | h
      · rw [h, Nat.mul_zero] at hi; omega
      · exact h
    have hlt := Nat.mod_lt i hp
    rw [getElem!_pos z.cells (i % z.cells.size) hlt]
    exact h1 _ (by simp)
  have hst := run_storeCells_cells (P := P) b o (Builtin.zeroCells z.cells n).toList 0 w (by rw [hl]; simpa using hc) (by rw [hl]; simpa using hf) hm
  simp only [Nat.add_zero] at hst
  obtain ⟨m, rfl⟩ : ∃ m, n = m + 1 := ⟨n - 1, by omega⟩
  simp [Builtin.clear_, run_underlying ht, hv, hst]
end Go.Ideal

namespace Go.Ideal
open Classical in
noncomputable def ideleteR (sz : Nat) : IFun := fun args H =>
  match args with
  | [.slice (some ⟨b, 0, some q⟩) n cap, .int .i64 x, .int .i64 y] =>
    match H.get b with
    | some (.vec k l false) =>
      if k.length = sz ∧ cap = capU ∧ k.all SK.plain = true ∧ q + n ≤ l.length ∧ 0 ≤ x ∧ x < y ∧ y ≤ n then
        some (.slice (some ⟨H.next, 0, some 0⟩) (n - (y.toNat - x.toNat)) capU, (H.del b).alloc (.vec k (((l.drop q).take n).take x.toNat ++ ((l.drop q).take n).drop y.toNat) false))
      else none
    | _ => none
  | _ => none
noncomputable def pDelete (sz : Nat) : PFun := fun args H K =>
  match args with
  | [.slice (some ⟨b, 0, some q⟩) n cap, .int .i64 x, .int .i64 y] =>
    match H.get b with
    | some (.vec k l false) =>
      bif Nat.beq k.length sz && Nat.beq cap capU && k.all SK.plain then
        (q + n ≤ l.length ∧ 0 ≤ x ∧ x < y ∧ y ≤ n) ∧ K (.slice (some ⟨H.next, 0, some 0⟩) (n - (y.toNat - x.toNat)) capU) ((H.del b).alloc (.vec k (((l.drop q).take n).take x.toNat ++ ((l.drop q).take n).drop y.toNat) false))
      else False
    | _ => False
  | _ => False
theorem pDelete_ok {X : Ctx} {f : FuncId} {sz : Nat} (hX : X.intr f = some (ideleteR sz)) {args : List Value} {H : IHeap} {K : Value → IHeap → Prop} (h : pDelete sz args H K) : ∃ v H', intrAt X f args .normal H = some (v, H') ∧ K v H' := by
  unfold pDelete at h
  split at h
  · rename_i b q n cap x y
    split at h
    · rename_i k l hb
      cases hc : (Nat.beq k.length sz && Nat.beq cap capU && k.all SK.plain)
      · rw [hc] at h; cases h
      · rw [hc] at h
        refine ⟨_, _, ?_, h.2⟩
        unfold intrAt
        simp only [hX]
        unfold ideleteR
        simp only [hb]
        simp only [Bool.and_eq_true] at hc
        exact if_pos ⟨Nat.eq_of_beq_eq_true hc.1.1, Nat.eq_of_beq_eq_true hc.1.2, hc.2, h.1⟩
    · cases h
  · cases h

def DelRun (P : Program) (f : FuncId) (k : Nat) : Prop := ∀ (b off n c i j : Nat) (cs : List Value) (w : World), i < j → j ≤ n → n ≤ c → c ≤ 9223372036854775807 → cs.length = n * k →
    (∀ t v, cs[t]? = some v → w.cell? ⟨b, off + t, none⟩ = some v) → (∀ t, t < n * k → w.frozen? ⟨b, off + t, none⟩ = false) → (∀ v ∈ cs, v.oneCell' = true) →
    Calls P f #[.slice (some ⟨b, off, none⟩) n c, .int .i64 i, .int .i64 j] w fun e w' =>
      ∃ zs : List Value, zs.length = (j - i) * k ∧ e = .returned (.slice (some ⟨b, off, none⟩) (n - (j - i)) c) ∧ w' = (w.drew.setCells b (off + i * k) (cs.drop (j * k))).setCells b (off + (n - (j - i)) * k) zs

theorem splice_down (A D Z : List Value) (x y : Nat) (hy : x + D.length = y) (hl : y + Z.length ≤ A.length) : (splice (splice A x D) y Z).take (x + D.length) = A.take x ++ D := by
  unfold splice
  have h1 : (A.take x ++ (D ++ A.drop (x + D.length))).take y = A.take x ++ D := by
    rw [← List.append_assoc, List.take_append_of_le_length (by simp; omega), List.take_of_length_le (by simp; omega)]
  rw [h1, List.take_append_of_le_length (by simp; omega), List.take_of_length_le (by simp; omega)]

section
variable {P : Program} {laid : List (Nat × List Value)}
theorem iok_delete {f : FuncId} {sz : Nat} (hent : ∃ n c, entry P f = some (n, c)) (hk0 : 0 < sz) (hk1 : sz ≠ 1) (hD : DelRun P f sz) : IOk P laid f (ideleteR sz) := by
  refine ⟨hent, ?_⟩
  intro base W0 μ H W args args' v H' hW h hl ha hF
  unfold ideleteR at hF
  split at hF
  · rename_i b q n cap x y
    split at hF
    · rename_i k l hb
      split at hF
      · rename_i hc
        obtain ⟨rfl, rfl, hpl, hq, hx0, hxy, hyn⟩ := hc
        obtain ⟨i, rfl⟩ : ∃ i : Nat, x = i := ⟨x.toNat, by omega⟩
        obtain ⟨j, rfl⟩ : ∃ j : Nat, y = j := ⟨y.toNat, by omega⟩
        simp only [Int.toNat_natCast, Option.some.injEq, Prod.mk.injEq] at hF
        obtain ⟨rfl, rfl⟩ := hF
        have hij : i < j := by omega
        have hjn : j ≤ n := by omega
        generalize hqq : args'.toList = qq at ha
        cases ha with
        | cons h1 ha => cases ha with
          | cons h2 ha => cases ha with
            | cons h3 ha =>
              cases ha
              cases h2
              cases h3
              rcases row_flat h hb h1 with ⟨h1f, hnr, _⟩ | ⟨_, hn0, _⟩
              rotate_left
              · omega
              have hdv := h.devec hb fun T hT hv => hnr T hT hv.2.1
              have hg : (H.put b (.cells (encL k l) k.length false)).get b = some (.cells (encL k l) k.length false) := by rw [IHeap.get_put, if_pos rfl]
              have hT : ∃ T, μ b = some T := by cases h1 with | vslice _ _ _ _ _ _ T hm _ _ _ => exact ⟨T, hm⟩ | vnil _ _ _ T _ hm _ => exact ⟨T, hm⟩
              have h1 := slice_up h1f
              generalize hoff : q * k.length = off at h1
              cases h1 with
              | slice _ _ _ _ cap' o' T hm hcr ho =>
                have hargs : args' = #[.slice (some ⟨T.c, o', none⟩) n cap', .int .i64 (i : Int), .int .i64 (j : Int)] := by rw [← Array.toList_inj, hqq]
                subst hargs
                have hcr' : n ≤ cap' ∧ off + cap' * T.e ≤ T.r ∧ (T.e = 1 ∨ cap' ≤ 9223372036854775807) := by
                  rcases hcr with ⟨c1, c2⟩ | ⟨c1, c2, c3, c4, c5⟩
                  · omega
                  · exact ⟨c3, c4, c5⟩
                obtain ⟨c3, c4, c5⟩ := hcr'
                have hoo : o' = T.d + off := by
                  rcases ho with ho | ⟨e1, _⟩
                  · exact ho
                  · omega
                subst hoo
                obtain ⟨ob, hob, hor⟩ := hdv.obj b _ hg T hm
                have hqe : off + n * k.length ≤ l.length * k.length := by rw [← hoff, ← Nat.add_mul]; exact Nat.mul_le_mul_right _ hq
                have hO1 : ((encL k l).drop off).take (n * k.length) = encL k ((l.drop q).take n) := by rw [← hoff, encL_drop, encL_take]
                have hOl : (encL k ((l.drop q).take n)).length = n * k.length := by rw [encL_length, List.length_take, List.length_drop, Nat.min_eq_left (by omega)]
                generalize hM : (l.drop q).take n = M at hO1 hOl ⊢
                have hres : encL k (M.take i ++ M.drop j) = (encL k M).take (i * k.length) ++ (encL k M).drop (j * k.length) := by rw [encL_append, encL_take, encL_drop]
                cases hor with
                | cells _ _ _ arr t lo hi2 hTe hcl hsz hfz =>
                  rw [← hTe] at c4 c5
                  have hold : LRel μ (encL k M) ((arr.toList.drop (T.d + off)).take (n * k.length)) := by
                    rw [← hO1]
                    have := (hcl.drop off).take (n * k.length)
                    rw [List.drop_take, List.drop_drop, List.take_take, Nat.min_eq_left (by rw [encL_length]; omega)] at this
                    exact this
                  generalize hO' : (arr.toList.drop (T.d + off)).take (n * k.length) = O' at hold
                  have hlo := hold.length
                  have hcsC : ∀ p v, O'[p]? = some v → W.cell? ⟨T.c, T.d + off + p, none⟩ = some v := fun p v hp => cell_of_raw hob (by rw [hO']; exact hp)
                  have h1O := rel_oneCell hold (encL_ok k hpl M)
                  have hie : i * k.length ≤ j * k.length := Nat.mul_le_mul_right _ (by omega)
                  have hje : j * k.length ≤ n * k.length := Nat.mul_le_mul_right _ hjn
                  have hne : n * k.length ≤ cap' * k.length := Nat.mul_le_mul_right _ c3
                  have e1 : (j - i) * k.length = j * k.length - i * k.length := Nat.sub_mul _ _ _
                  have e2 : (n - (j - i)) * k.length = n * k.length - (j * k.length - i * k.length) := by rw [Nat.sub_mul, e1]
                  have hdl : (O'.drop (j * k.length)).length = n * k.length - j * k.length := by rw [List.length_drop]; omega
                  refine Calls.mono (hD T.c (T.d + off) n cap' i j O' W hij hjn c3 (by omega) (by omega) hcsC ?_ h1O) ?_
                  · intro p hp
                    have := hfz rfl (T.d + off + p) (.inl (by omega))
                    simp only [World.frozen?, hob, Bool.and_eq_false_iff, decide_eq_false_iff_not]
                    omega
                  · rintro ex W' ⟨zs, hz, rfl, rfl⟩
                    obtain ⟨a1, r1, r2, r2b, r3, r4, r5, r6⟩ := setCells_raw T.c t (lo, hi2) (O'.drop (j * k.length)) (T.d + off + i * k.length) arr W.drew hob (by omega)
                    obtain ⟨a2, s1, s2, s2b, s3, s4, s5, s6⟩ := setCells_raw T.c t (lo, hi2) zs (T.d + off + (n - (j - i)) * k.length) a1 _ r1 (by omega)
                    obtain ⟨hdel, hdelE⟩ := hdv.del hm
                    obtain ⟨φ, qa⟩ := hdv.abs
                    have hmap := hdel.map_new (T := ⟨T.c, T.d + off, T.r - off, k.length⟩) (o := .cells (encL k (M.take i ++ M.drop j)) k.length false) (W' := (W.drew.setCells T.c (T.d + off + i * k.length) (O'.drop (j * k.length))).setCells T.c (T.d + off + (n - (j - i)) * k.length) zs)
                      (by rw [s3, r3]; exact Nat.le_refl _) (fun p _ hp => by rw [s4 p hp, r4 p hp]; rfl)
                      (fun b' p T' hb' hm' hv => by
                        intro e1
                        obtain ⟨e2, hb2⟩ := IHeap.get_of_del hb'
                        exact e2 (hdv.inj b' b _ _ hb2 hg T' T hm' hm hv id e1))
                      ⟨φ, ⟨fun b' a ro T' h1 h2 => qa.rep b' a ro T' (IHeap.get_of_del h1).2 h2, fun b' a ro T' h1 h2 b2 o2 T2 h3 h4 h5 => qa.far b' a ro T' (IHeap.get_of_del h1).2 h2 b2 o2 T2 (IHeap.get_of_del h3).2 h4 h5⟩,
                        fun b' a ro h1 ⟨T', h2⟩ => (qa.far b' a ro T' (IHeap.get_of_del h1).2 h2 b _ T hg hm (Ne.symm (IHeap.get_of_del h1).1) id).1⟩
                      s1 (hdv.own b _ hg rfl T hm id) ?_ (by rw [s5, r5]; rfl) (by rw [s6, r6]; rfl)
                    · obtain ⟨g1, g2⟩ := alloc_row (by omega) (H1 := H.del b) (m := n - (j - i)) (v' := .slice (some ⟨T.c, T.d + off, none⟩) (n - (j - i)) cap') hmap.1
                        (.slice H.next 0 _ _ _ _ ⟨T.c, T.d + off, T.r - off, k.length⟩ (Inj.ext_same _ _ _) (.inr ⟨by omega, by omega, by omega, by show 0 + cap' * k.length ≤ T.r - off; omega, .inr (by omega)⟩) (.inl rfl))
                        (fun p _ => by
                          rw [IHeap.get_del, IHeap.get_del, IHeap.get_put]
                          by_cases e : p = b <;> simp [e]) rfl
                      refine ⟨_, _, rfl, g1, g2, ?_⟩
                      refine (hdelE.trans hmap.2).congr (fun p hp hmp => ?_) (fun p hp hmp => ?_) rfl rfl
                      · have : p ≠ b := by rintro rfl; rw [hm] at hmp; cases hmp
                        rw [IHeap.get_put, if_neg this]
                      · have : p ≠ b := by rintro rfl; rw [hm] at hmp; cases hmp
                        have hp : p < H.next := hp
                        rw [IHeap.get_alloc, IHeap.get_alloc, if_neg (by show p ≠ H.next; omega), if_neg (by show p ≠ H.next; omega), IHeap.get_del, IHeap.get_del, IHeap.get_put, if_neg this, if_neg this, if_neg this]
                    · refine .cells ⟨T.c, T.d + off, T.r - off, k.length⟩ _ _ false _ t lo hi2 rfl ?_ ?_ ?_
                      · show LRel μ _ (List.take _ (List.drop (T.d + off) a2.toList))
                        have hA : arr.toList = arr.toList.take (T.d + off) ++ arr.toList.drop (T.d + off) := (List.take_append_drop _ _).symm
                        have hAl : (arr.toList.take (T.d + off)).length = T.d + off := by rw [List.length_take, Array.length_toList]; omega
                        have hA1l : n * k.length ≤ (arr.toList.drop (T.d + off)).length := by
                          have e5 : arr.toList.length = arr.size := Array.length_toList
                          rw [List.length_drop, e5]; omega
                        generalize hA0 : arr.toList.take (T.d + off) = A0 at hA hAl
                        generalize hA1 : arr.toList.drop (T.d + off) = A1 at hA hO' hA1l
                        have hs2 : a2.toList = A0 ++ splice (splice A1 (i * k.length) (O'.drop (j * k.length))) ((n - (j - i)) * k.length) zs := by
                          rw [s2, r2, hA]
                          rw [show T.d + off + i * k.length = A0.length + i * k.length by omega, splice_at]
                          rw [show T.d + off + (n - (j - i)) * k.length = A0.length + (n - (j - i)) * k.length by omega, splice_at]
                        have hrl : ((encL k M).take (i * k.length) ++ (encL k M).drop (j * k.length)).length = i * k.length + (O'.drop (j * k.length)).length := by
                          simp only [List.length_append, List.length_take, List.length_drop]; omega
                        rw [hs2, hres, hrl, List.drop_left' hAl]
                        have hjn2 : j * k.length - i * k.length ≤ n * k.length := Nat.le_trans (Nat.sub_le _ _) hje
                        rw [splice_down A1 (O'.drop (j * k.length)) zs (i * k.length) ((n - (j - i)) * k.length) (by omega) (by rw [hz, e1, e2, Nat.sub_add_cancel hjn2]; exact hA1l)]
                        rw [show A1.take (i * k.length) = O'.take (i * k.length) by rw [← hO', List.take_take, Nat.min_eq_left (by omega)]]
                        exact (hold.take _).append (hold.drop _)
                      · show a2.size = T.d + off + (T.r - off)
                        omega
                      · intro _ p hp
                        refine hfz rfl p ?_
                        have : a2.size = arr.size := by omega
                        rw [← this]; exact hp
      · cases hF
    · cases hF
  · cases hF
end
end Go.Ideal

set_option linter.unusedVariables false
set_option linter.unusedSimpArgs false
namespace Go.Ideal
open Go.Proofs Go.RowKit Go.Lib
set_option maxHeartbeats 4000000 in
set_option maxRecDepth 1000000 in
theorem del67_run : DelRun Tryz.prog 67 2 := by
  intro b off n c i j cs w hij hjn hnc hc63 hcl hcs hfz h1c
  have mixed : Tryz.prog.follows .mixedOrders = true := by kernel_rfl
  obtain ⟨i0, z0, hi0, hz0, hzs, hzc, hz1⟩ : ∃ i0 z0, Tryz.prog.info? 101 = some i0 ∧ i0.zero = some z0 ∧ i0.size = 2 ∧ z0.cells.size = 2 ∧ z0.cells.toList.all (·.oneCell') = true := ⟨Tryz.t101, Tryz.t101.zero.getD default, by kernel_rfl, by kernel_rfl, by kernel_rfl, by kernel_rfl, by kernel_rfl⟩
  have hzv : ∀ w, (zeroValue 101).run Tryz.prog w = .ok z0 w := fun w => by simp [zeroValue, typeInfo, hi0, hz0]
  -- the cells that are moved to the left
  obtain ⟨news, hnews⟩ : ∃ news, news = cs.drop (j * 2) := ⟨_, rfl⟩
  have hlen : news.length = (n - j) * 2 := by rw [hnews, List.length_drop, hcl, Nat.sub_mul]
  obtain ⟨A, hA, hsrc⟩ : ∃ A : Addr, (if c = j then some (⟨b, off, none⟩ : Addr) else some ⟨b, off + j * 2, none⟩) = some A ∧ Hid (∀ t u, news[t]? = some u → w.drew.cell? (A.add t) = some u) := by
    by_cases h : c = j
    · refine ⟨⟨b, off, none⟩, by simp [h], fun t u hu => ?_⟩
      have h0 : news.length = 0 := by rw [hlen, show n - j = 0 by omega, Nat.zero_mul]
      rw [List.length_eq_zero_iff.1 h0] at hu
      simp at hu
    · refine ⟨⟨b, off + j * 2, none⟩, by simp [h], fun t u hu => ?_⟩
      rw [Addr.add_lit, Nat.add_assoc]
      rw [hnews, List.getElem?_drop] at hu
      exact hcs _ _ hu
  have s1 : Hid (news.length = (n - j) * 2) := hlen
  have s2 : Hid (∀ u ∈ news, u.oneCell' = true) := fun u hu => h1c u (by rw [hnews] at hu; exact List.mem_of_mem_drop hu)
  have hsome : ∀ t, t < n * 2 → (w.cell? ⟨b, off + t, none⟩).isSome = true := fun t ht => by
    rw [hcs t _ (List.getElem?_eq_getElem (by omega))]; rfl
  have s3 : Hid (∀ t, t < news.length → (w.drew.cell? ⟨b, off + i * 2 + t, none⟩).isSome = true ∧ w.drew.frozen? ⟨b, off + i * 2 + t, none⟩ = false) := by
    intro t ht
    rw [hlen] at ht
    rw [Nat.add_assoc]
    exact ⟨hsome _ (by omega), hfz _ (by omega)⟩
  obtain ⟨W1, hW1⟩ : ∃ W1, W1 = w.drew.setCells b (off + i * 2) news := ⟨_, rfl⟩
  obtain ⟨zs, hzs2⟩ : ∃ zs, zs = (Builtin.zeroCells z0.cells (n - (i + (n - j)))).toList := ⟨_, rfl⟩
  have hzl : zs.length = (j - i) * 2 := by rw [hzs2]; simp [Builtin.zeroCells, hzc]; omega
  have hcl2 : ∀ ty, (Builtin.clear_ #[95] ty #[.slice (some ⟨b, off + (i + (n - j)) * 2, none⟩) (n - (i + (n - j))) (c - (i + (n - j)))]).run Tryz.prog W1 = .ok (.tuple #[]) (W1.setCells b (off + (i + (n - j)) * 2) zs) := fun ty => by
    rw [hzs2]
    refine run_clear_sliceK W1 95 101 ty z0 Tryz.underlying95 hzv (fun v hv => List.all_eq_true.1 hz1 v hv) b (off + (i + (n - j)) * 2) _ _ (by omega) (fun t ht => ?_) (fun t ht => ?_)
    · rw [hzc] at ht
      rw [hW1, Nat.add_assoc]
      exact isSome_setCells b _ _ _ (fun p hp => by rw [hlen] at hp; rw [Nat.add_assoc]; exact hsome _ (by omega)) _ (hsome _ (by omega))
    · rw [hzc] at ht
      rw [hW1, World.frozen?_setCells, Nat.add_assoc]
      exact hfz _ (by omega)
  have hW : Hid (W1 = w.drew.setCells b (off + i * 2) news) := hW1
  have X : Hid (news = cs.drop (j * 2)) := hnews
  have Y : Hid (zs.length = (j - i) * 2) := hzl
  have hic : i ≤ c := by omega
  have hjc : j ≤ c := by omega
  have hin : i ≤ n := by omega
  clear hW1 hcs hfz h1c hnews hlen hzl hsome hzs2
  go_enter Tryz.func67, Tryz.ntmps67
  go_wp2_with fail
  go_region_law_o (refine step_append_room rfl (.tmp 22) (.tmp 25) 95 rfl 101 i0 2 Tryz.underlying95 hi0 hzs b off i c (by simp [Act.eval, Act.put]) A (n - j) (c - j) news (by simp [Act.eval, Act.put]) s1.out hsrc.out s2.out (by omega) s3.out ?_; rw [← hW.out])
  go_wp2
  go_ret
  refine ⟨zs, Y.out, by rw [show n - (j - i) = i + (n - j) by omega]; rfl, ?_⟩
  rw [← X.out, ← hW.out, show n - (j - i) = i + (n - j) by omega]
theorem del67_ok (laid : List (Nat × List Value)) : IOk Tryz.prog laid 67 (ideleteR 2) :=
  iok_delete ⟨_, _, show entry Tryz.prog 67 = some (33, pcOf Tryz.prog 67 []) by kernel_rfl⟩ (by decide) (by decide) del67_run
end Go.Ideal

namespace Go.Ideal
open Classical in
noncomputable def iinsertR (sz bytes : Nat) : IFun := fun args H =>
  match args with
  | [.slice (some ⟨b, 0, some q⟩) n cap, .int .i64 x, .slice (some ⟨vb, voff, none⟩) m _] =>
    match H.get b, H.get vb with
    | some (.vec k l false), some (.cells vcs ve false) =>
      if k.length = sz ∧ cap = capU ∧ k.all SK.plain = true ∧ vb ≠ b ∧ m ≠ 0 ∧ ve ≠ 1 ∧ q + n ≤ l.length ∧ 0 ≤ x ∧ x < n ∧ bigOk bytes (n + m) = true then
        match decL k m ((vcs.drop voff).take (m * k.length)) with
        | some new => some (.slice (some ⟨H.next, 0, some 0⟩) (n + m) capU, (H.del b).alloc (.vec k (((l.drop q).take n).take x.toNat ++ (new ++ ((l.drop q).take n).drop x.toNat)) false))
        | none => none
      else none
    | _, _ => none
  | _ => none
noncomputable def pInsert (sz bytes : Nat) : PFun := fun args H K =>
  match args with
  | [.slice (some ⟨b, 0, some q⟩) n cap, .int .i64 x, .slice (some ⟨vb, voff, none⟩) m _] =>
    match H.get b, H.get vb with
    | some (.vec k l false), some (.cells vcs ve false) =>
      bif Nat.beq k.length sz && Nat.beq cap capU && k.all SK.plain && !(Nat.beq vb b) && !(Nat.beq m 0) && !(Nat.beq ve 1) then
        match decL k m ((vcs.drop voff).take (m * k.length)) with
        | some new => (q + n ≤ l.length ∧ 0 ≤ x ∧ x < n ∧ bigOk bytes (n + m) = true) ∧ K (.slice (some ⟨H.next, 0, some 0⟩) (n + m) capU) ((H.del b).alloc (.vec k (((l.drop q).take n).take x.toNat ++ (new ++ ((l.drop q).take n).drop x.toNat)) false))
        | none => False
      else False
    | _, _ => False
  | _ => False
theorem ne_of_beqN {a b : Nat} (h : Nat.beq a b = false) : a ≠ b := by
  rintro rfl
  rw [Nat.beq_refl] at h; cases h
theorem beqN_ne {a b : Nat} (h : a ≠ b) : Nat.beq a b = false := by
  cases hq : Nat.beq a b
  · rfl
  · exact absurd (Nat.eq_of_beq_eq_true hq) h
theorem pInsert_ok {X : Ctx} {f : FuncId} {sz B : Nat} (hX : X.intr f = some (iinsertR sz B)) {args : List Value} {H : IHeap} {K : Value → IHeap → Prop} (h : pInsert sz B args H K) : ∃ v H', intrAt X f args .normal H = some (v, H') ∧ K v H' := by
  unfold pInsert at h
  split at h
  · rename_i b q n cap x vb voff m vcap
    split at h
    · rename_i k l vcs ve hb hvb
      cases hc : (Nat.beq k.length sz && Nat.beq cap capU && k.all SK.plain && !(Nat.beq vb b) && !(Nat.beq m 0) && !(Nat.beq ve 1))
      · rw [hc] at h; cases h
      · rw [hc] at h
        simp only [cond_true] at h
        split at h
        · rename_i new hnew
          refine ⟨_, _, ?_, h.2⟩
          unfold intrAt
          simp only [hX]
          unfold iinsertR
          simp only [hb, hvb]
          simp only [Bool.and_eq_true, Bool.not_eq_true'] at hc
          obtain ⟨⟨⟨⟨⟨c1, c2⟩, c3⟩, c4⟩, c5⟩, c6⟩ := hc
          rw [if_pos ⟨Nat.eq_of_beq_eq_true c1, Nat.eq_of_beq_eq_true c2, c3, ne_of_beqN c4, ne_of_beqN c5, ne_of_beqN c6, h.1⟩]
          simp only [hnew]
        · cases h
    · cases h
  · cases h

section
variable {P : Program} {laid : List (Nat × List Value)}
theorem iok_insertR {f : FuncId} {sz B : Nat} {E : TypeId} (hent : ∃ n c, entry P f = some (n, c)) (hk0 : 0 < sz) (hk1 : sz ≠ 1) (hS : InsShift P f sz) (hG : InsGrow P f sz B E) : IOk P laid f (iinsertR sz B) := by
  refine ⟨hent, ?_⟩
  intro base W0 μ H W args args' v H' hW h hl ha hF
  unfold iinsertR at hF
  split at hF
  · rename_i b q n cap x vb voff m vcap
    split at hF
    · rename_i k l vcs ve hb hvb
      split at hF
      · rename_i hc
        obtain ⟨rfl, rfl, hpl, hne, hm0, hve, hq, hx0, hxn, hbig⟩ := hc
        split at hF
        · rename_i new hnew
          obtain ⟨i, rfl⟩ : ∃ i : Nat, x = i := ⟨x.toNat, by omega⟩
          simp only [Int.toNat_natCast, Option.some.injEq, Prod.mk.injEq] at hF
          obtain ⟨rfl, rfl⟩ := hF
          generalize hqq : args'.toList = qq at ha
          cases ha with
          | cons h1 ha => cases ha with
            | cons h2 ha => cases ha with
              | cons h3 ha =>
                cases ha
                rcases row_flat h hb h1 with ⟨h1f, hnr, _⟩ | ⟨_, hn0, _⟩
                rotate_left
                · omega
                have hdv := h.devec hb fun T hT hv => hnr T hT hv.2.1
                have hg : (H.put b (.cells (encL k l) k.length false)).get b = some (.cells (encL k l) k.length false) := by rw [IHeap.get_put, if_pos rfl]
                have hgv : (H.put b (.cells (encL k l) k.length false)).get vb = some (.cells vcs ve false) := by rw [IHeap.get_put, if_neg hne]; exact hvb
                have hT : ∃ T, μ b = some T := by cases h1 with | vslice _ _ _ _ _ _ T hm _ _ _ => exact ⟨T, hm⟩ | vnil _ _ _ T _ hm _ => exact ⟨T, hm⟩
                obtain ⟨d1, d2, d3⟩ := decL_enc k (by omega) _ _ _ hnew
                rw [List.take_take, Nat.min_self] at d1
                have hll : ((vcs.drop voff).take (m * k.length)).length = m * k.length := by rw [← d1, encL_length, d2]
                have hmk : Nat.beq (m * k.length) 0 = false := beqN_ne (Nat.mul_ne_zero hm0 (by omega))
                have hsrc : isrc k.length (.slice (some ⟨vb, voff, none⟩) m vcap) (H.put b (.cells (encL k l) k.length false)) = some (m, encL k new) := by
                  unfold isrc
                  simp only [hmk, cond_false, hgv, hll, Nat.beq_refl, cond_true, d1]
                have hold : ((encL k l).drop (q * k.length)).take (n * k.length) = encL k ((l.drop q).take n) := by rw [encL_drop, encL_take]
                have hOl : (encL k ((l.drop q).take n)).length = n * k.length := by rw [encL_length, List.length_take, List.length_drop, Nat.min_eq_left (by omega)]
                have hok := encL_ok k hpl
                generalize hM : (l.drop q).take n = M at hold hOl ⊢
                have hres : encL k (M.take i ++ (new ++ M.drop i)) = (encL k M).take (i * k.length) ++ (encL k new ++ (encL k M).drop (i * k.length)) := by rw [encL_append, encL_append, encL_take, encL_drop]
                obtain ⟨b5, b6⟩ := bigOk_eq hbig
                have hins : iinsert k.length B [.slice (some ⟨b, q * k.length, none⟩) n capU, .int .i64 (Int.ofNat i), .slice (some ⟨vb, voff, none⟩) m vcap] (H.put b (.cells (encL k l) k.length false)) =
                    some (.slice (some ⟨H.next, 0, none⟩) (n + m) (capU + (n + m)), ((H.put b (.cells (encL k l) k.length false)).del b).alloc (.cells (encL k (M.take i ++ (new ++ M.drop i))) k.length false)) := by
                  unfold iinsert
                  have g1 : Nat.ble capU capU = true := Nat.ble_eq_true_of_le (Nat.le_refl _)
                  have g2 : Nat.blt i n = true := Nat.ble_eq_true_of_le (by omega)
                  have g3 : Nat.beq vb b = false := beqN_ne hne
                  have g4 : Nat.beq m 0 = false := beqN_ne hm0
                  have g5 : isOwn ((H.put b (.cells (encL k l) k.length false)).get vb) = true := by
                    rw [hgv]
                    unfold isOwn
                    simp only [beqN_ne hve, Bool.not_false]
                  simp only [g1, g2, g3, g4, g5, Bool.and_self, Bool.not_false, cond_true, hsrc]
                  unfold imid
                  simp only [hg, hold, hOl, Nat.beq_refl, hok, b5, b6, Bool.and_self, cond_true, hres]
                  rfl
                have hrun := (iok_insert (laid := laid) hent hk0 hk1 hS hG).2 base W0 μ _ W _ args' _ _ hW hdv hl (by rw [hqq]; exact .cons h1f (.cons h2 (.cons h3 .nil))) hins
                refine Calls.mono hrun ?_
                rintro e W' ⟨v', μ', rfl, r2, r3, r4⟩
                obtain ⟨g1, g2⟩ := alloc_row (by omega) (H1 := H.del b) r2 r3 (fun p _ => by
                  rw [IHeap.get_del, IHeap.get_del, IHeap.get_put]
                  by_cases e : p = b <;> simp [e]) rfl
                refine ⟨v', μ', rfl, g1, g2, ?_⟩
                obtain ⟨T, hT⟩ := hT
                refine r4.congr (fun p hp hmp => ?_) (fun p hp hmp => ?_) rfl rfl
                · have : p ≠ b := by rintro rfl; rw [hT] at hmp; cases hmp
                  rw [IHeap.get_put, if_neg this]
                · have : p ≠ b := by rintro rfl; rw [hT] at hmp; cases hmp
                  have hp : p < H.next := hp
                  rw [IHeap.get_alloc, IHeap.get_alloc, if_neg (by show p ≠ H.next; omega), if_neg (by show p ≠ H.next; omega), IHeap.get_del, IHeap.get_del, IHeap.get_put, if_neg this, if_neg this, if_neg this]
        · cases hF
      · cases hF
    · cases hF
  · cases hF
end
end Go.Ideal

set_option maxRecDepth 1000000
namespace Go.Ideal
open Go.Proofs
theorem vc_getN (k : ByteArray) (Q : Value → List (Option IObj) → Prop) : VCp XA pfA f_ordmap_Map_Get [9] Q 300 (st f_ordmap_Map_Get 26 [p9, .string k] (putL ⟨.leaf, 9⟩ tblN)) = (
 (((.bool false) : Value) = (.bool false)) ∧
 (Q (.tuple ⟨[(.string ({ data := #[] })), (.bool false)]⟩) [some (.cells [(.bool true), (.slice none 0 0)] 0 false)])) := by kernel_rfl
theorem vc_getL (l : List (EK.C kSS)) (k : ByteArray) (Q : Value → List (Option IObj) → Prop) : VCp XA pfA f_ordmap_Map_Get [9, 10] Q 300 (st f_ordmap_Map_Get 26 [p9, .string k] (putL ⟨.leaf, 9⟩ (tblL l))) = (
 (List.length l = List.length l ∧ capU = capU ∧ sortedK l ∧ List.length l < 4611686018427387904) ∧
 (bif decide (↑(rankK l k) < Int.ofNat (List.length l)) then
  (bif decide (0 ≤ ↑(rankK l k)) && Nat.blt (Int.toNat ↑(rankK l k)) (List.length l) then
   (bif Nat.blt (0 + Int.toNat ↑(rankK l k)) (List.length l) then
    (bif ByteArray.toList (Prod.fst (List.getD l (0 + Int.toNat ↑(rankK l k)) (EK.dflt kSS))) == ByteArray.toList k then
     (((.bool true) : Value) = (.bool true)) ∧
     (((.bool (ByteArray.toList (Prod.fst (List.getD l (0 + Int.toNat ↑(rankK l k)) (EK.dflt kSS))) == ByteArray.toList k)) : Value) = (.bool true)) ∧
     (((.string k) : Value) = (.string k)) ∧
     (bif Nat.blt (0 + Int.toNat ↑(rankK l k)) (List.length l) then
      (((.string (Prod.fst (List.getD l (0 + Int.toNat ↑(rankK l k)) (EK.dflt kSS)))) : Value) = (.string (Prod.fst (List.getD l (0 + Int.toNat ↑(rankK l k)) (EK.dflt kSS))))) ∧
      (((.pointer (some ⟨10, 0, (some (0 + Int.toNat ↑(rankK l k)))⟩)) : Value) = (.pointer (some ⟨10, 0, (some (0 + Int.toNat ↑(rankK l k)))⟩))) ∧
      (bif decide (0 ≤ ↑(rankK l k)) && Nat.blt (Int.toNat ↑(rankK l k)) (List.length l) then
       (((.pointer (some ⟨10, 0, (some (0 + Int.toNat ↑(rankK l k)))⟩)) : Value) = (.pointer (some ⟨10, 0, (some (0 + Int.toNat ↑(rankK l k)))⟩))) ∧
       (((.int IntKind.i64 (↑(rankK l k))) : Value) = (.int IntKind.i64 (↑(rankK l k)))) ∧
       (((.slice (some ⟨10, 0, (some 0)⟩) (List.length l) 18446744073709551616) : Value) = (.slice (some ⟨10, 0, (some 0)⟩) (List.length l) 18446744073709551616)) ∧
       (bif decide (0 ≤ ↑(rankK l k)) && Nat.blt (Int.toNat ↑(rankK l k)) (List.length l) then
        (bif Nat.blt (0 + Int.toNat ↑(rankK l k)) (List.length l) then
         (Q (.tuple ⟨[(.string (Prod.snd (List.getD l (0 + Int.toNat ↑(rankK l k)) (EK.dflt kSS)))), (.bool true)]⟩) [some (.cells [(.bool true), (.slice (some ⟨10, 0, (some 0)⟩) (List.length l) 18446744073709551616)] 0 false), some (.vec kSS l false)])
        else
         False)
       else
        False)
      else
       False)
     else
      False)
    else
     (((.bool false) : Value) = (.bool false)) ∧
     (((.bool (ByteArray.toList (Prod.fst (List.getD l (0 + Int.toNat ↑(rankK l k)) (EK.dflt kSS))) == ByteArray.toList k)) : Value) = (.bool false)) ∧
     (((.string k) : Value) = (.string k)) ∧
     (bif Nat.blt (0 + Int.toNat ↑(rankK l k)) (List.length l) then
      (((.string (Prod.fst (List.getD l (0 + Int.toNat ↑(rankK l k)) (EK.dflt kSS)))) : Value) = (.string (Prod.fst (List.getD l (0 + Int.toNat ↑(rankK l k)) (EK.dflt kSS))))) ∧
      (((.pointer (some ⟨10, 0, (some (0 + Int.toNat ↑(rankK l k)))⟩)) : Value) = (.pointer (some ⟨10, 0, (some (0 + Int.toNat ↑(rankK l k)))⟩))) ∧
      (bif decide (0 ≤ ↑(rankK l k)) && Nat.blt (Int.toNat ↑(rankK l k)) (List.length l) then
       (((.pointer (some ⟨10, 0, (some (0 + Int.toNat ↑(rankK l k)))⟩)) : Value) = (.pointer (some ⟨10, 0, (some (0 + Int.toNat ↑(rankK l k)))⟩))) ∧
       (((.int IntKind.i64 (↑(rankK l k))) : Value) = (.int IntKind.i64 (↑(rankK l k)))) ∧
       (((.slice (some ⟨10, 0, (some 0)⟩) (List.length l) 18446744073709551616) : Value) = (.slice (some ⟨10, 0, (some 0)⟩) (List.length l) 18446744073709551616)) ∧
       (Q (.tuple ⟨[(.string ({ data := #[] })), (.bool false)]⟩) [some (.cells [(.bool true), (.slice (some ⟨10, 0, (some 0)⟩) (List.length l) 18446744073709551616)] 0 false), some (.vec kSS l false)])
      else
       False)
     else
      False))
   else
    False)
  else
   False)
 else
  (((.bool false) : Value) = (.bool false)) ∧
  (Q (.tuple ⟨[(.string ({ data := #[] })), (.bool false)]⟩) [some (.cells [(.bool true), (.slice (some ⟨10, 0, (some 0)⟩) (List.length l) 18446744073709551616)] 0 false), some (.vec kSS l false)]))) := by kernel_rfl
theorem vc_lenN (Q : Value → List (Option IObj) → Prop) : VCp XA pfA f_ordmap_Map_Len [9] Q 300 (st f_ordmap_Map_Len 6 [p9] (putL ⟨.leaf, 9⟩ tblN)) = (
 (Q (.int IntKind.i64 0) [some (.cells [(.bool true), (.slice none 0 0)] 0 false)])) := by kernel_rfl
theorem vc_lenL (l : List (EK.C kSS)) (Q : Value → List (Option IObj) → Prop) : VCp XA pfA f_ordmap_Map_Len [9, 10] Q 300 (st f_ordmap_Map_Len 6 [p9] (putL ⟨.leaf, 9⟩ (tblL l))) = (
 (Q (.int IntKind.i64 (Int.ofNat (List.length l))) [some (.cells [(.bool true), (.slice (some ⟨10, 0, (some 0)⟩) (List.length l) 18446744073709551616)] 0 false), some (.vec kSS l false)])) := by kernel_rfl
theorem vc_insE (l : List (EK.C kSS)) (k v : ByteArray) (n : Nat) (x : Int) (Q : Value → List (Option IObj) → Prop) : VCp XA pfA f_slices_Insert [] Q 300 (st f_slices_Insert 95 [.slice (some ⟨9, 0, some 0⟩) n capU, .int .i64 x, .slice (some ⟨10, 0, none⟩) 1 1] (putL ⟨.leaf, 9⟩ [.vec kSS l false, .cells [.string k, .string v] 2 true])) = (
 (bif decide (0 ≤ Int.ofNat n) && Nat.ble (Int.toNat (Int.ofNat n)) n && decide (0 ≤ x) && Nat.ble (Int.toNat x) (Int.toNat (Int.ofNat n)) then
  (bif x == Int.ofNat n then
   (bif true && Nat.ble (0 + n) (List.length l) && bigOk 32 (n + 1) then
    (Q (.slice (some ⟨11, 0, (some 0)⟩) (n + 1) 18446744073709551616) [some (.vec ([SK.str] ++ ([SK.str] ++ [])) (List.take n (List.drop 0 l) ++ [(k, v)]) false)])
   else
    False)
  else
   False)
 else
  False)) := by kernel_rfl
end Go.Ideal

set_option maxRecDepth 1000000
namespace Go.Ideal
open Go.Proofs
def atK (l : List (EK.C kSS)) (k : ByteArray) : Option ByteArray :=
  if rankK l k < l.length ∧ ((l.getD (rankK l k) (EK.dflt kSS)).1.toList == k.toList) = true then some (l.getD (rankK l k) (EK.dflt kSS)).2 else none
def optV (o : Option ByteArray) : Value := .tuple ⟨[.string (o.getD { data := #[] }), .bool o.isSome]⟩
theorem optV_flat (o : Option ByteArray) : flatN 6 (optV o) = true ∧ refsN 4 (optV o) = [] := by
  cases o <;> exact ⟨rfl, rfl⟩
noncomputable def getQ : TblF :=
  ⟨fun l rest => sortedK l ∧ l.length < 4611686018427387904 ∧ ∃ k, rest = [.string k], fun l rest => match rest with
    | [.string k] => optV (atK l k)
    | _ => junk, fun l _ => l⟩
theorem cb {a n : Nat} (h : a < n) : Nat.blt (0 + Int.toNat (a : Int)) n = true := by
  rw [Nat.zero_add, Int.toNat_natCast]; exact Nat.ble_eq_true_of_le h
theorem ca {a n : Nat} (h : a < n) : (decide ((0 : Int) ≤ (a : Int)) && Nat.blt (Int.toNat (a : Int)) n) = true := by
  rw [Int.toNat_natCast, show Nat.blt a n = true from Nat.ble_eq_true_of_le h]; simp
theorem iok_get : IOk Tryz.prog tab42 f_ordmap_Map_Get (footF tab42 9 [true] getQ.G) := by
  refine iok_tbl allA (by kernel_rfl) (n := 26) ?_
  rintro l rest ⟨hs, hn, k, rfl⟩
  refine ⟨by simp, (optV_flat _).1, (optV_flat _).2, ?_, ?_⟩
  · rintro rfl
    have hv : getQ.v [] [.string k] = .tuple ⟨[.string { data := #[] }, .bool false]⟩ := by
      show optV (atK [] k) = _
      unfold atK
      rw [if_neg (by simp)]; rfl
    rw [hv]
    refine (EndsIn.toN (VCp_ok pfA_ok (ids := [9]) (Q := fun v os => v = .tuple ⟨[.string { data := #[] }, .bool false]⟩ ∧ os = [some (.cells [.bool true, .slice none 0 0] 0 false)]) 300 _ (by rw [vc_getN]; exact ⟨rfl, rfl, rfl⟩))).mono ?_
    rintro v H ⟨rfl, h⟩
    exact ⟨rfl, .inl ⟨rfl, get1 rfl h⟩⟩
  · have hE : EndsN XA 10 f_ordmap_Map_Get (fun v H => v = optV (atK l k) ∧ ([9, 10] ++ refsN 4 v).map H.get = [some (.cells [.bool true, .slice (some ⟨10, 0, some 0⟩) l.length capU] 0 false), some (.vec kSS l false)]) (st f_ordmap_Map_Get 26 [p9, .string k] (putL ⟨.leaf, 9⟩ (tblL l))) := by
      refine EndsIn.toN (VCp_ok pfA_ok (ids := [9, 10]) (Q := fun v os => v = optV (atK l k) ∧ os = [some (.cells [.bool true, .slice (some ⟨10, 0, some 0⟩) l.length capU] 0 false), some (.vec kSS l false)]) 300 _ ?_)
      rw [vc_getL]
      refine ⟨⟨rfl, rfl, hs, hn⟩, bif_decide (fun h => ?_) (fun h => ?_)⟩
      · have hlt : rankK l k < l.length := by
          have : (rankK l k : Int) < (l.length : Int) := h
          omega
        refine bif_true (ca hlt) (bif_true (cb hlt) (bif_both (fun hc => ?_) (fun hc => ?_)))
        · have e : atK l k = some (l.getD (0 + Int.toNat (rankK l k : Int)) (EK.dflt kSS)).2 := by
            unfold atK
            rw [Nat.zero_add, Int.toNat_natCast] at hc ⊢
            rw [if_pos ⟨hlt, hc⟩]
          refine ⟨rfl, by rw [hc], rfl, bif_true (cb hlt) ⟨rfl, rfl, bif_true (ca hlt) ⟨rfl, rfl, rfl, bif_true (ca hlt) (bif_true (cb hlt) ⟨by rw [e]; rfl, by unfold capU; rfl⟩)⟩⟩⟩
        · have e : atK l k = none := by
            unfold atK
            rw [Nat.zero_add, Int.toNat_natCast] at hc
            rw [if_neg (by rintro ⟨_, h2⟩; rw [hc] at h2; cases h2)]
          exact ⟨rfl, by rw [hc], rfl, bif_true (cb hlt) ⟨rfl, rfl, bif_true (ca hlt) ⟨rfl, rfl, rfl, by rw [e]; rfl, by unfold capU; rfl⟩⟩⟩
      · have e : atK l k = none := by
          unfold atK
          rw [if_neg (by rintro ⟨h2, _⟩; exact h (by show (rankK l k : Int) < (l.length : Int); omega))]
        exact ⟨rfl, by rw [e]; rfl, by unfold capU; rfl⟩
    refine hE.mono ?_
    rintro v H ⟨rfl, h⟩
    obtain ⟨h1, h2⟩ := get2 (optV_flat _).2 h
    exact ⟨rfl, .inr ⟨10, by decide, h1, h2⟩⟩
noncomputable def lenQ : TblF :=
  ⟨fun _ rest => rest = [], fun l _ => .int .i64 l.length, fun l _ => l⟩
theorem iok_len : IOk Tryz.prog tab42 f_ordmap_Map_Len (footF tab42 9 [true] lenQ.G) := by
  refine iok_tbl allA (by kernel_rfl) (n := 6) ?_
  rintro l rest rfl
  refine ⟨by simp, rfl, rfl, ?_, ?_⟩
  · rintro rfl
    refine (EndsIn.toN (VCp_ok pfA_ok (ids := [9]) (Q := fun v os => v = .int .i64 0 ∧ os = [some (.cells [.bool true, .slice none 0 0] 0 false)]) 300 _ (by rw [vc_lenN]; exact ⟨rfl, rfl⟩))).mono ?_
    rintro v H ⟨rfl, h⟩
    exact ⟨rfl, .inl ⟨rfl, get1 rfl h⟩⟩
  · refine (EndsIn.toN (VCp_ok pfA_ok (ids := [9, 10]) (Q := fun v os => v = .int .i64 l.length ∧ os = [some (.cells [.bool true, .slice (some ⟨10, 0, some 0⟩) l.length capU] 0 false), some (.vec kSS l false)]) 300 _ (by rw [vc_lenL]; exact ⟨rfl, by unfold capU; rfl⟩))).mono ?_
    rintro v H ⟨rfl, h⟩
    obtain ⟨h1, h2⟩ := get2 rfl h
    exact ⟨rfl, .inr ⟨10, by decide, h1, h2⟩⟩
end Go.Ideal

--CASTS
set_option maxRecDepth 1000000
namespace Go.Ideal
open Go.Proofs
noncomputable def insEndG (args : List Value) (objs : List IObj) : GT :=
  match args, objs with
  | [.slice (some ⟨9, 0, some 0⟩) n c, .int .i64 x, .slice (some ⟨10, 0, none⟩) 1 1], [.vec [.str, .str] l _, .cells [.string k, .string v] 2 _] =>
    .ask (n = l.length ∧ c = capU ∧ x = n ∧ bigOk 32 (n + 1) = true) (.ret ⟨.slice (some ⟨11, 0, some 0⟩) (n + 1) capU, [none, none], [.vec kSS (l ++ [(k, v)]) false]⟩)
  | [.slice none 0 0, .int .i64 (.ofNat 0), .slice (some ⟨9, 0, none⟩) 1 1], [.cells [.string k, .string v] 2 _] => .ret ⟨.slice (some ⟨10, 0, some 0⟩) 1 capU, [none], [.vec kSS [(k, v)] false]⟩
  | _, _ => .fail
noncomputable def insF : IFun := fun args H => match iinsertR 2 32 args H with
  | some r => some r
  | none => footF tab42 9 [true, false] insEndG args H
noncomputable def pIns : PFun := fun args H K => match args with
  | [.slice a n c, .int .i64 x, s] => bif decide (x < (n : Int)) then pInsert 2 32 [.slice a n c, .int .i64 x, s] H K else footPf tab42 9 [true, false] insEndG [.slice a n c, .int .i64 x, s] H K
  | _ => False
theorem vc_insN (k v : ByteArray) (Q : Value → List (Option IObj) → Prop) : VCp XA pfA f_slices_Insert [10] Q 300 (st f_slices_Insert 95 [.slice none 0 0, .int .i64 0, .slice (some ⟨9, 0, none⟩) 1 1] (putL ⟨.leaf, 9⟩ [.cells [.string k, .string v] 2 false])) = (
 (Q (.slice (some ⟨10, 0, none⟩) 1 18446744073709551617) [some (.cells [(.string k), (.string v)] 2 false), some (.cells [(.string k), (.string v)] 2 false)])) := by kernel_rfl
noncomputable def fsS : List (FuncId × IFun) := (f_slices_Insert, insF) :: (f_slices_Delete, ideleteR 2) :: fsA
noncomputable def XS : Ctx := ctxI Tryz.prog tab42 fsS
noncomputable def pfS : Pf := fun g => bif Nat.beq g f_slices_Insert then some pIns else bif Nat.beq g f_slices_Delete then some (pDelete 2) else pfA g
theorem vc_setN (k v : ByteArray) (Q : Value → List (Option IObj) → Prop) : VCp XS pfS f_ordmap_Map_Set [9, 12] Q 500 (st f_ordmap_Map_Set 61 [p9, .string k, .string v] (putL ⟨.leaf, 9⟩ tblN)) = (
 (((.bool false) : Value) = (.bool false)) ∧
 (Q (.tuple ⟨[(.string ({ data := #[] })), (.bool false), (.int IntKind.i64 0)]⟩) [some (.cells [(.bool true), (.slice (some ⟨12, 0, (some 0)⟩) 1 18446744073709551616)] 0 false), some (.vec ([SK.str, SK.str]) ([(k, v)]) false)])) := by kernel_rfl
theorem vc_setL (l : List (EK.C kSS)) (k v : ByteArray) (Q : Value → List (Option IObj) → Prop) : VCp XS pfS f_ordmap_Map_Set [9, 10, 13] Q 500 (st f_ordmap_Map_Set 61 [p9, .string k, .string v] (putL ⟨.leaf, 9⟩ (tblL l))) = (
 (List.length l = List.length l ∧ capU = capU ∧ sortedK l ∧ List.length l < 4611686018427387904) ∧
 (bif decide (((rankK l k) : Int) < Int.ofNat (List.length l)) then
  (bif decide (0 ≤ ((rankK l k) : Int)) && Nat.blt (Int.toNat ((rankK l k) : Int)) (List.length l) then
   (bif Nat.blt (0 + Int.toNat ((rankK l k) : Int)) (List.length l) then
    (bif ByteArray.toList (Prod.fst (List.getD l (0 + Int.toNat ((rankK l k) : Int)) (EK.dflt kSS))) == ByteArray.toList k then
     (((.bool true) : Value) = (.bool true)) ∧
     (((.bool (ByteArray.toList (Prod.fst (List.getD l (0 + Int.toNat ((rankK l k) : Int)) (EK.dflt kSS))) == ByteArray.toList k)) : Value) = (.bool true)) ∧
     (((.string k) : Value) = (.string k)) ∧
     (bif Nat.blt (0 + Int.toNat ((rankK l k) : Int)) (List.length l) then
      (((.string (Prod.fst (List.getD l (0 + Int.toNat ((rankK l k) : Int)) (EK.dflt kSS)))) : Value) = (.string (Prod.fst (List.getD l (0 + Int.toNat ((rankK l k) : Int)) (EK.dflt kSS))))) ∧
      (((.pointer (some ⟨10, 0, (some (0 + Int.toNat ((rankK l k) : Int)))⟩)) : Value) = (.pointer (some ⟨10, 0, (some (0 + Int.toNat ((rankK l k) : Int)))⟩))) ∧
      (bif decide (0 ≤ ((rankK l k) : Int)) && Nat.blt (Int.toNat ((rankK l k) : Int)) (List.length l) then
       (((.pointer (some ⟨10, 0, (some (0 + Int.toNat ((rankK l k) : Int)))⟩)) : Value) = (.pointer (some ⟨10, 0, (some (0 + Int.toNat ((rankK l k) : Int)))⟩))) ∧
       (((.int IntKind.i64 (((rankK l k) : Int))) : Value) = (.int IntKind.i64 (((rankK l k) : Int)))) ∧
       (((.slice (some ⟨10, 0, (some 0)⟩) (List.length l) 18446744073709551616) : Value) = (.slice (some ⟨10, 0, (some 0)⟩) (List.length l) 18446744073709551616)) ∧
       (bif decide (0 ≤ ((rankK l k) : Int)) && Nat.blt (Int.toNat ((rankK l k) : Int)) (List.length l) then
        (bif Nat.blt (0 + Int.toNat ((rankK l k) : Int)) (List.length l) then
         (((.string v) : Value) = (.string v)) ∧
         (((.int IntKind.i64 (((rankK l k) : Int))) : Value) = (.int IntKind.i64 (((rankK l k) : Int)))) ∧
         (((.slice (some ⟨10, 0, (some 0)⟩) (List.length l) 18446744073709551616) : Value) = (.slice (some ⟨10, 0, (some 0)⟩) (List.length l) 18446744073709551616)) ∧
         (((.pointer (some ⟨9, 1, none⟩)) : Value) = (.pointer (some ⟨9, 1, none⟩))) ∧
         (((.pointer (some ⟨9, 0, none⟩)) : Value) = (.pointer (some ⟨9, 0, none⟩))) ∧
         (((.pointer (some ⟨9, 0, none⟩)) : Value) = (.pointer (some ⟨9, 0, none⟩))) ∧
         (bif decide (0 ≤ ((rankK l k) : Int)) && Nat.blt (Int.toNat ((rankK l k) : Int)) (List.length l) then
          (bif Nat.blt (0 + Int.toNat ((rankK l k) : Int)) (List.length l) then
           (Q (.tuple ⟨[(.string (Prod.snd (List.getD l (0 + Int.toNat ((rankK l k) : Int)) (EK.dflt kSS)))), (.bool true), (.int IntKind.i64 0)]⟩) [some (.cells [(.bool true), (.slice (some ⟨10, 0, (some 0)⟩) (List.length l) 18446744073709551616)] 0 false), some (.vec kSS (List.set l (0 + Int.toNat ((rankK l k) : Int)) (Prod.fst (List.getD l (0 + Int.toNat ((rankK l k) : Int)) (EK.dflt kSS)), v)) false), none])
          else
           False)
         else
          False)
        else
         False)
       else
        False)
      else
       False)
     else
      False)
    else
     (((.bool false) : Value) = (.bool false)) ∧
     (((.bool (ByteArray.toList (Prod.fst (List.getD l (0 + Int.toNat ((rankK l k) : Int)) (EK.dflt kSS))) == ByteArray.toList k)) : Value) = (.bool false)) ∧
     (((.string k) : Value) = (.string k)) ∧
     (bif Nat.blt (0 + Int.toNat ((rankK l k) : Int)) (List.length l) then
      (((.string (Prod.fst (List.getD l (0 + Int.toNat ((rankK l k) : Int)) (EK.dflt kSS)))) : Value) = (.string (Prod.fst (List.getD l (0 + Int.toNat ((rankK l k) : Int)) (EK.dflt kSS))))) ∧
      (((.pointer (some ⟨10, 0, (some (0 + Int.toNat ((rankK l k) : Int)))⟩)) : Value) = (.pointer (some ⟨10, 0, (some (0 + Int.toNat ((rankK l k) : Int)))⟩))) ∧
      (bif decide (0 ≤ ((rankK l k) : Int)) && Nat.blt (Int.toNat ((rankK l k) : Int)) (List.length l) then
       (((.pointer (some ⟨10, 0, (some (0 + Int.toNat ((rankK l k) : Int)))⟩)) : Value) = (.pointer (some ⟨10, 0, (some (0 + Int.toNat ((rankK l k) : Int)))⟩))) ∧
       (((.int IntKind.i64 (((rankK l k) : Int))) : Value) = (.int IntKind.i64 (((rankK l k) : Int)))) ∧
       (((.slice (some ⟨10, 0, (some 0)⟩) (List.length l) 18446744073709551616) : Value) = (.slice (some ⟨10, 0, (some 0)⟩) (List.length l) 18446744073709551616)) ∧
       (bif decide (((rankK l k) : Int) < ((List.length l) : Int)) then
        (0 + List.length l ≤ List.length l ∧ 0 ≤ ((rankK l k) : Int) ∧ ((rankK l k) : Int) < ((List.length l) : Int) ∧ bigOk 32 (List.length l + 1) = true) ∧
        (Q (.tuple ⟨[(.string ({ data := #[] })), (.bool false), (.int IntKind.i64 0)]⟩) [some (.cells [(.bool true), (.slice (some ⟨13, 0, (some 0)⟩) (List.length l + 1) 18446744073709551616)] 0 false), none, some (.vec kSS (List.take (Int.toNat ((rankK l k) : Int)) (List.take (List.length l) (List.drop 0 l)) ++ ([(k, v)] ++ List.drop (Int.toNat ((rankK l k) : Int)) (List.take (List.length l) (List.drop 0 l)))) false)])
       else
        (List.length l = List.length l ∧ capU = capU ∧ ((rankK l k) : Int) = ((List.length l) : Int) ∧ bigOk 32 (List.length l + 1) = true) ∧
        (Q (.tuple ⟨[(.string ({ data := #[] })), (.bool false), (.int IntKind.i64 0)]⟩) [some (.cells [(.bool true), (.slice (some ⟨13, 0, (some 0)⟩) (List.length l + 1) 18446744073709551616)] 0 false), none, some (.vec ([SK.str, SK.str]) (l ++ [(k, v)]) false)]))
      else
       False)
     else
      False))
   else
    False)
  else
   False)
 else
  (((.bool false) : Value) = (.bool false)) ∧
  (bif decide (((rankK l k) : Int) < ((List.length l) : Int)) then
   (0 + List.length l ≤ List.length l ∧ 0 ≤ ((rankK l k) : Int) ∧ ((rankK l k) : Int) < ((List.length l) : Int) ∧ bigOk 32 (List.length l + 1) = true) ∧
   (Q (.tuple ⟨[(.string ({ data := #[] })), (.bool false), (.int IntKind.i64 0)]⟩) [some (.cells [(.bool true), (.slice (some ⟨13, 0, (some 0)⟩) (List.length l + 1) 18446744073709551616)] 0 false), none, some (.vec kSS (List.take (Int.toNat ((rankK l k) : Int)) (List.take (List.length l) (List.drop 0 l)) ++ ([(k, v)] ++ List.drop (Int.toNat ((rankK l k) : Int)) (List.take (List.length l) (List.drop 0 l)))) false)])
  else
   (List.length l = List.length l ∧ capU = capU ∧ ((rankK l k) : Int) = ((List.length l) : Int) ∧ bigOk 32 (List.length l + 1) = true) ∧
   (Q (.tuple ⟨[(.string ({ data := #[] })), (.bool false), (.int IntKind.i64 0)]⟩) [some (.cells [(.bool true), (.slice (some ⟨13, 0, (some 0)⟩) (List.length l + 1) 18446744073709551616)] 0 false), none, some (.vec ([SK.str, SK.str]) (l ++ [(k, v)]) false)])))) := by kernel_rfl
theorem vc_delN (k : ByteArray) (Q : Value → List (Option IObj) → Prop) : VCp XS pfS f_ordmap_Map_Delete [9] Q 500 (st f_ordmap_Map_Delete 32 [p9, .string k] (putL ⟨.leaf, 9⟩ tblN)) = (
 (((.bool false) : Value) = (.bool false)) ∧
 (Q (.tuple ⟨[(.string ({ data := #[] })), (.bool false)]⟩) [some (.cells [(.bool true), (.slice none 0 0)] 0 false)])) := by kernel_rfl
theorem vc_delL (l : List (EK.C kSS)) (k : ByteArray) (Q : Value → List (Option IObj) → Prop) : VCp XS pfS f_ordmap_Map_Delete [9, 10, 13] Q 500 (st f_ordmap_Map_Delete 32 [p9, .string k] (putL ⟨.leaf, 9⟩ (tblL l))) = (
 (List.length l = List.length l ∧ capU = capU ∧ sortedK l ∧ List.length l < 4611686018427387904) ∧
 (bif decide (((rankK l k) : Int) < Int.ofNat (List.length l)) then
  (bif decide (0 ≤ ((rankK l k) : Int)) && Nat.blt (Int.toNat ((rankK l k) : Int)) (List.length l) then
   (bif Nat.blt (0 + Int.toNat ((rankK l k) : Int)) (List.length l) then
    (bif ByteArray.toList (Prod.fst (List.getD l (0 + Int.toNat ((rankK l k) : Int)) (EK.dflt kSS))) == ByteArray.toList k then
     (((.bool true) : Value) = (.bool true)) ∧
     (((.bool (ByteArray.toList (Prod.fst (List.getD l (0 + Int.toNat ((rankK l k) : Int)) (EK.dflt kSS))) == ByteArray.toList k)) : Value) = (.bool true)) ∧
     (((.string k) : Value) = (.string k)) ∧
     (bif Nat.blt (0 + Int.toNat ((rankK l k) : Int)) (List.length l) then
      (((.string (Prod.fst (List.getD l (0 + Int.toNat ((rankK l k) : Int)) (EK.dflt kSS)))) : Value) = (.string (Prod.fst (List.getD l (0 + Int.toNat ((rankK l k) : Int)) (EK.dflt kSS))))) ∧
      (((.pointer (some ⟨10, 0, (some (0 + Int.toNat ((rankK l k) : Int)))⟩)) : Value) = (.pointer (some ⟨10, 0, (some (0 + Int.toNat ((rankK l k) : Int)))⟩))) ∧
      (bif decide (0 ≤ ((rankK l k) : Int)) && Nat.blt (Int.toNat ((rankK l k) : Int)) (List.length l) then
       (((.pointer (some ⟨10, 0, (some (0 + Int.toNat ((rankK l k) : Int)))⟩)) : Value) = (.pointer (some ⟨10, 0, (some (0 + Int.toNat ((rankK l k) : Int)))⟩))) ∧
       (((.int IntKind.i64 (((rankK l k) : Int))) : Value) = (.int IntKind.i64 (((rankK l k) : Int)))) ∧
       (((.slice (some ⟨10, 0, (some 0)⟩) (List.length l) 18446744073709551616) : Value) = (.slice (some ⟨10, 0, (some 0)⟩) (List.length l) 18446744073709551616)) ∧
       (bif decide (0 ≤ ((rankK l k) : Int)) && Nat.blt (Int.toNat ((rankK l k) : Int)) (List.length l) then
        (bif Nat.blt (0 + Int.toNat ((rankK l k) : Int)) (List.length l) then
         (List.length l = List.length l ∧ capU = capU ∧ sortedK l ∧ List.length l < 4611686018427387904) ∧
         (0 + List.length l ≤ List.length l ∧ 0 ≤ ((rankK l k) : Int) ∧ ((rankK l k) : Int) < IntKind.wrap IntKind.i64 (((rankK l k) : Int) + 1) ∧ IntKind.wrap IntKind.i64 (((rankK l k) : Int) + 1) ≤ ((List.length l) : Int)) ∧
         (Q (.tuple ⟨[(.string (Prod.snd (List.getD l (0 + Int.toNat ((rankK l k) : Int)) (EK.dflt kSS)))), (.bool true)]⟩) [some (.cells [(.bool true), (.slice (some ⟨13, 0, (some 0)⟩) (List.length l - (Int.toNat (IntKind.wrap IntKind.i64 (((rankK l k) : Int) + 1)) - Int.toNat ((rankK l k) : Int))) 18446744073709551616)] 0 false), none, some (.vec kSS (List.take (Int.toNat ((rankK l k) : Int)) (List.take (List.length l) (List.drop 0 l)) ++ List.drop (Int.toNat (IntKind.wrap IntKind.i64 (((rankK l k) : Int) + 1))) (List.take (List.length l) (List.drop 0 l))) false)])
        else
         False)
       else
        False)
      else
       False)
     else
      False)
    else
     (((.bool false) : Value) = (.bool false)) ∧
     (((.bool (ByteArray.toList (Prod.fst (List.getD l (0 + Int.toNat ((rankK l k) : Int)) (EK.dflt kSS))) == ByteArray.toList k)) : Value) = (.bool false)) ∧
     (((.string k) : Value) = (.string k)) ∧
     (bif Nat.blt (0 + Int.toNat ((rankK l k) : Int)) (List.length l) then
      (((.string (Prod.fst (List.getD l (0 + Int.toNat ((rankK l k) : Int)) (EK.dflt kSS)))) : Value) = (.string (Prod.fst (List.getD l (0 + Int.toNat ((rankK l k) : Int)) (EK.dflt kSS))))) ∧
      (((.pointer (some ⟨10, 0, (some (0 + Int.toNat ((rankK l k) : Int)))⟩)) : Value) = (.pointer (some ⟨10, 0, (some (0 + Int.toNat ((rankK l k) : Int)))⟩))) ∧
      (bif decide (0 ≤ ((rankK l k) : Int)) && Nat.blt (Int.toNat ((rankK l k) : Int)) (List.length l) then
       (((.pointer (some ⟨10, 0, (some (0 + Int.toNat ((rankK l k) : Int)))⟩)) : Value) = (.pointer (some ⟨10, 0, (some (0 + Int.toNat ((rankK l k) : Int)))⟩))) ∧
       (((.int IntKind.i64 (((rankK l k) : Int))) : Value) = (.int IntKind.i64 (((rankK l k) : Int)))) ∧
       (((.slice (some ⟨10, 0, (some 0)⟩) (List.length l) 18446744073709551616) : Value) = (.slice (some ⟨10, 0, (some 0)⟩) (List.length l) 18446744073709551616)) ∧
       (Q (.tuple ⟨[(.string ({ data := #[] })), (.bool false)]⟩) [some (.cells [(.bool true), (.slice (some ⟨10, 0, (some 0)⟩) (List.length l) 18446744073709551616)] 0 false), some (.vec kSS l false), none])
      else
       False)
     else
      False))
   else
    False)
  else
   False)
 else
  (((.bool false) : Value) = (.bool false)) ∧
  (Q (.tuple ⟨[(.string ({ data := #[] })), (.bool false)]⟩) [some (.cells [(.bool true), (.slice (some ⟨10, 0, (some 0)⟩) (List.length l) 18446744073709551616)] 0 false), some (.vec kSS l false), none]))) := by kernel_rfl
end Go.Ideal

set_option maxRecDepth 1000000
namespace Go.Ideal
open Go.Proofs
theorem tm_new {m b : Nat} {muts : List Bool} {olds : List (Option IObj)} {v v' : Value} {o o1 : IObj} {Hf : IHeap} (holds : ∀ (j : Nat) (o : IObj), olds[j]? ≠ some (some o)) (hb : 9 + m ≤ b) (hv : renV (TMatch.runOf tab42 9 m [b]) v = some v')
    (ho : renO (TMatch.runOf tab42 9 m [b]) o = some o1) (h : Hf.get b = some o1) : TMatch tab42 9 m muts ⟨v, olds, [o]⟩ v' Hf := by
  refine ⟨[b], by simp, fun c hc => by simp at hc; omega, rfl, hv, fun j c p hj hp => ?_, fun j p _ _ hp => absurd hp (holds j p)⟩
  cases j with
  | zero => cases hj; cases hp; exact ⟨o1, ho, h⟩
  | succ j => cases j <;> cases hj
theorem iok_insE : IOk Tryz.prog tab42 f_slices_Insert (footF tab42 9 [true, false] insEndG) := by
  refine iok_footD allA (by kernel_rfl) (n := 95) (by kernel_rfl) (by kernel_rfl) fun argsc objs x hx hro => ?_
  unfold insEndG at hx
  split at hx
  · rename_i n c x0 l ro k v ro2
    simp only [GT.run] at hx
    split at hx
    · rename_i hc
      cases hx
      obtain ⟨rfl, rfl, rfl, hbig⟩ := hc
      have hr0 : ro = false := hro 0 _ rfl rfl
      subst hr0
      refine ⟨by simp, ?_⟩
      have h0 : EndsN XA 11 f_slices_Insert (fun w H => w = .slice (some ⟨11, 0, some 0⟩) (l.length + 1) capU ∧ H.get 11 = some (.vec kSS (l ++ [(k, v)]) false)) (st f_slices_Insert 95 [.slice (some ⟨9, 0, some 0⟩) l.length capU, .int .i64 (l.length : Int), .slice (some ⟨10, 0, none⟩) 1 1] (putL ⟨.leaf, 9⟩ [.vec kSS l false, .cells [.string k, .string v] 2 true])) := by
        refine (EndsIn.toN (VCp_ok pfA_ok (ids := []) (Q := fun w os => w = .slice (some ⟨11, 0, some 0⟩) (l.length + 1) capU ∧ os = [some (.vec kSS (l ++ [(k, v)]) false)]) 300 _ ?_)).mono ?_
        · rw [vc_insE]
          refine bif_true ?_ (bif_true ?_ (bif_true ?_ ⟨by unfold capU; rfl, ?_⟩))
          · simp
          · simp
          · simp [hbig]
          · rw [List.drop_zero, List.take_of_length_le (Nat.le_refl _)]; rfl
        · rintro w H ⟨rfl, h⟩
          exact ⟨rfl, by simpa [refsN] using h⟩
      refine EndsD.mono (Q := fun w H => w = .slice (some ⟨11, 0, some 0⟩) (l.length + 1) capU ∧ H.get 11 = some (.vec kSS (l ++ [(k, v)]) false)) h0.toD ?_
      rintro w H ⟨rfl, h⟩
      refine tm_new (b := 11) (fun j o hj => ?_) (Nat.le_refl _) rfl rfl h
      cases j with
      | zero => cases hj
      | succ j => cases j <;> cases hj
    · cases hx
  · rename_i k v ro
    cases hx
    have hr0 : ro = false := hro 0 _ rfl rfl
    subst hr0
    refine ⟨by simp, ?_⟩
    have h0 : EndsN XA 10 f_slices_Insert (fun w H => w = .slice (some ⟨10, 0, none⟩) 1 (capU + 1) ∧ H.get 10 = some (.cells [.string k, .string v] 2 false)) (st f_slices_Insert 95 [.slice none 0 0, .int .i64 0, .slice (some ⟨9, 0, none⟩) 1 1] (putL ⟨.leaf, 9⟩ [.cells [.string k, .string v] 2 false])) := by
      refine (EndsIn.toN (VCp_ok pfA_ok (ids := [10]) (Q := fun w os => w = .slice (some ⟨10, 0, none⟩) 1 (capU + 1) ∧ os = [some (.cells [.string k, .string v] 2 false), some (.cells [.string k, .string v] 2 false)]) 300 _ ?_)).mono ?_
      · rw [vc_insN]
        exact ⟨by unfold capU; rfl, rfl⟩
      · rintro w H ⟨rfl, h⟩
        refine ⟨rfl, ?_⟩
        have h : [H.get 10, H.get 10] = _ := h
        simpa using h
    refine EndsD.row (k := kSS) (Q := fun w H => w = .slice (some ⟨10, 0, none⟩) 1 (capU + 1) ∧ H.get 10 = some (.cells [.string k, .string v] 2 false)) h0.toD ?_
    rintro w H ⟨rfl, h⟩
    refine ⟨10, 1, [(k, v)], rfl, h, ?_⟩
    refine tm_new (b := 10) (fun j o hj => ?_) (Nat.le_refl _) rfl rfl (by rw [IHeap.get_put, if_pos rfl])
    cases j <;> cases hj
  · cases hx
end Go.Ideal

set_option maxRecDepth 1000000
namespace Go.Ideal
open Go.Proofs
theorem iok_insR : IOk Tryz.prog tab42 f_slices_Insert (iinsertR 2 32) := iok_insertR ⟨95, _, show entry Tryz.prog 69 = some (95, pcOf Tryz.prog 69 []) by kernel_rfl⟩ (by decide) (by decide) ins69_shift ins69_grow
theorem iok_insF : IOk Tryz.prog tab42 f_slices_Insert insF := by
  refine ⟨iok_insE.1, fun base W0 μ H W args args' v H' a b c d hF => ?_⟩
  unfold insF at hF
  split at hF
  · rename_i r hr
    cases hF
    exact iok_insR.2 base W0 μ H W args args' v H' a b c d hr
  · exact iok_insE.2 base W0 μ H W args args' v H' a b c d hF
theorem insR_none {a : Option Addr} {n c : Nat} {x : Int} {s : Value} {H : IHeap} (h : ¬ x < (n : Int)) : iinsertR 2 32 [.slice a n c, .int .i64 x, s] H = none := by
  unfold iinsertR
  split
  · rename_i heq
    cases heq
    split
    · split
      · rename_i hc
        exact absurd hc.2.2.2.2.2.2.2.2.1 h
      · rfl
    · rfl
  · rfl
theorem pIns_ok {X : Ctx} {f : FuncId} (hX : X.intr f = some insF) {args : List Value} {H : IHeap} {K : Value → IHeap → Prop} (h : pIns args H K) : ∃ v H', intrAt X f args .normal H = some (v, H') ∧ K v H' := by
  unfold pIns at h
  split at h
  · rename_i a n c x s
    by_cases hx : x < (n : Int)
    · rw [decide_eq_true hx] at h
      have h : pInsert 2 32 [.slice a n c, .int .i64 x, s] H K := h
      let X2 : Ctx := ⟨X.P, X.laid, fun _ => some (iinsertR 2 32), X.plan⟩
      obtain ⟨v, H', h1, h2⟩ := pInsert_ok (X := X2) (f := f) (sz := 2) (B := 32) rfl h
      refine ⟨v, H', ?_, h2⟩
      unfold intrAt at h1 ⊢
      simp only [hX]
      have h1 : iinsertR 2 32 [.slice a n c, .int .i64 x, s] H = some (v, H') := h1
      unfold insF
      rw [h1]
    · rw [decide_eq_false hx] at h
      have h : footPf tab42 9 [true, false] insEndG [.slice a n c, .int .i64 x, s] H K := h
      let X2 : Ctx := ⟨X.P, X.laid, fun _ => some (footF tab42 9 [true, false] insEndG), X.plan⟩
      obtain ⟨v, H', h1, h2⟩ := footPf_ok (X := X2) (f := f) rfl h
      refine ⟨v, H', ?_, h2⟩
      unfold intrAt at h1 ⊢
      simp only [hX]
      have h1 : footF tab42 9 [true, false] insEndG [.slice a n c, .int .i64 x, s] H = some (v, H') := h1
      unfold insF
      rw [insR_none hx]
      exact h1
  · cases h
theorem allS : AllOk Tryz.prog tab42 fsS := AllOk.cons iok_insF (AllOk.cons (del67_ok _) allA)
theorem pfS_ok : PfOk XS pfS := pf_cons (fun _ _ _ h => pIns_ok (by kernel_rfl) h) (pf_cons (fun _ _ _ h => pDelete_ok (by kernel_rfl) h) (pf_cons (fun _ _ _ h => footPf_ok (by kernel_rfl) h) (noPf_ok _)))
end Go.Ideal

set_option maxRecDepth 1000000
namespace Go.Ideal
open Go.Proofs
noncomputable def setK (l : List (EK.C kSS)) (k v : ByteArray) : List (EK.C kSS) :=
  match atK l k with
  | some _ => l.set (rankK l k) ((l.getD (rankK l k) (EK.dflt kSS)).1, v)
  | none => l.take (rankK l k) ++ ([(k, v)] ++ l.drop (rankK l k))
noncomputable def delK (l : List (EK.C kSS)) (k : ByteArray) : List (EK.C kSS) :=
  match atK l k with
  | some _ => l.take (rankK l k) ++ l.drop (rankK l k + 1)
  | none => l
def optS (o : Option ByteArray) : Value := .tuple ⟨[.string (o.getD { data := #[] }), .bool o.isSome, .int .i64 0]⟩
theorem optS_flat (o : Option ByteArray) : flatN 6 (optS o) = true ∧ refsN 4 (optS o) = [] := by
  cases o <;> exact ⟨rfl, rfl⟩
theorem atK_some {l : List (EK.C kSS)} {k : ByteArray} (h : rankK l k < l.length) (hc : ((l.getD (0 + Int.toNat (rankK l k : Int)) (EK.dflt kSS)).1.toList == k.toList) = true) : atK l k = some (l.getD (rankK l k) (EK.dflt kSS)).2 := by
  unfold atK
  rw [Nat.zero_add, Int.toNat_natCast] at hc
  rw [if_pos ⟨h, hc⟩]
theorem atK_none {l : List (EK.C kSS)} {k : ByteArray} (hc : ((l.getD (0 + Int.toNat (rankK l k : Int)) (EK.dflt kSS)).1.toList == k.toList) = false) : atK l k = none := by
  unfold atK
  rw [Nat.zero_add, Int.toNat_natCast] at hc
  rw [if_neg (by rintro ⟨_, h2⟩; rw [hc] at h2; cases h2)]
theorem atK_end {l : List (EK.C kSS)} {k : ByteArray} (h : ¬ rankK l k < l.length) : atK l k = none := by
  unfold atK
  rw [if_neg (by rintro ⟨h2, _⟩; exact h h2)]
noncomputable def setQ : TblF :=
  ⟨fun l rest => sortedK l ∧ l.length < 1000000 ∧ ∃ k v, rest = [.string k, .string v], fun l rest => match rest with
    | [.string k, .string _] => optS (atK l k)
    | _ => junk, fun l rest => match rest with
    | [.string k, .string v] => setK l k v
    | _ => l⟩
theorem big32 {n : Nat} (h : n < 1000000) : bigOk 32 (n + 1) = true := by
  unfold bigOk
  rw [Nat.ble_eq_true_of_le (by omega), Nat.ble_eq_true_of_le (by omega)]; rfl
noncomputable def tblC (m n : Nat) : IObj := .cells [.bool true, .slice (some ⟨m, 0, some 0⟩) n capU] 0 false
theorem iok_set : IOk Tryz.prog tab42 f_ordmap_Map_Set (footF tab42 9 [true] setQ.G) := by
  refine iok_tbl allS (by kernel_rfl) (n := 61) ?_
  rintro l rest ⟨hs, hn, k, v, rfl⟩
  refine ⟨by simp, (optS_flat _).1, (optS_flat _).2, ?_, ?_⟩
  · rintro rfl
    have hat : atK [] k = none := atK_end (by simp)
    have hv : setQ.v [] [.string k, .string v] = .tuple ⟨[.string { data := #[] }, .bool false, .int .i64 0]⟩ := by
      show optS (atK [] k) = _
      rw [hat]; rfl
    have hnx : setQ.nx [] [.string k, .string v] = [(k, v)] := by
      show setK [] k v = _
      unfold setK
      rw [hat]; simp
    rw [hv, hnx]
    refine (EndsIn.toN (VCp_ok pfS_ok (ids := [9, 12]) (Q := fun w os => w = .tuple ⟨[.string { data := #[] }, .bool false, .int .i64 0]⟩ ∧ os = [some (tblC 12 1), some (.vec kSS [(k, v)] false)]) 500 _ (by rw [vc_setN]; exact ⟨rfl, rfl, by unfold tblC capU; rfl⟩))).mono ?_
    rintro w H ⟨rfl, h⟩
    have h : [H.get 9, H.get 12] = _ := h
    simp only [List.cons.injEq, and_true] at h
    exact ⟨rfl, .inr ⟨12, by decide, h.1, h.2⟩⟩
  · have hlen : (setK l k v).length = (match atK l k with | some _ => l.length | none => l.length + 1) := by
      have := rankK_le l k
      unfold setK
      cases atK l k with
      | some _ => simp
      | none => simp only [List.length_append, List.length_take, List.length_drop, List.length_cons, List.length_nil]; omega
    have hE : EndsN XS 10 f_ordmap_Map_Set (fun w H => w = optS (atK l k) ∧ ((∃ o3, ([9, 10, 13] ++ refsN 4 w).map H.get = [some (tblC 10 (setK l k v).length), some (.vec kSS (setK l k v) false), o3]) ∨
        ([9, 10, 13] ++ refsN 4 w).map H.get = [some (tblC 13 (setK l k v).length), none, some (.vec kSS (setK l k v) false)])) (st f_ordmap_Map_Set 61 [p9, .string k, .string v] (putL ⟨.leaf, 9⟩ (tblL l))) := by
      refine EndsIn.toN (VCp_ok pfS_ok (ids := [9, 10, 13]) (Q := fun w os => w = optS (atK l k) ∧ ((∃ o3, os = [some (tblC 10 (setK l k v).length), some (.vec kSS (setK l k v) false), o3]) ∨ os = [some (tblC 13 (setK l k v).length), none, some (.vec kSS (setK l k v) false)])) 500 _ ?_)
      rw [vc_setL]
      refine ⟨⟨rfl, rfl, hs, by omega⟩, bif_decide (fun h => ?_) (fun h => ?_)⟩
      · have hlt : rankK l k < l.length := by
          have : (rankK l k : Int) < (l.length : Int) := h
          omega
        refine bif_true (ca hlt) (bif_true (cb hlt) (bif_both (fun hc => ?_) (fun hc => ?_)))
        · have e := atK_some hlt hc
          have e2 : setK l k v = l.set (rankK l k) ((l.getD (rankK l k) (EK.dflt kSS)).1, v) := by unfold setK; rw [e]
          rw [e] at hlen
          refine ⟨rfl, by rw [hc], rfl, bif_true (cb hlt) ⟨rfl, rfl, bif_true (ca hlt) ⟨rfl, rfl, rfl, bif_true (ca hlt) (bif_true (cb hlt) ⟨rfl, rfl, rfl, rfl, rfl, rfl, bif_true (ca hlt) (bif_true (cb hlt) ⟨?_, .inl ⟨none, ?_⟩⟩)⟩)⟩⟩⟩
          · rw [e, Nat.zero_add, Int.toNat_natCast]; rfl
          · rw [hlen, e2, Nat.zero_add, Int.toNat_natCast]
            unfold tblC capU; rfl
        · have e := atK_none hc
          have e2 : setK l k v = l.take (rankK l k) ++ ([(k, v)] ++ l.drop (rankK l k)) := by unfold setK; rw [e]
          rw [e] at hlen
          refine ⟨rfl, by rw [hc], rfl, bif_true (cb hlt) ⟨rfl, rfl, bif_true (ca hlt) ⟨rfl, rfl, rfl, bif_decide (fun h2 => ?_) (fun h2 => absurd h h2)⟩⟩⟩
          refine ⟨⟨by omega, by omega, h2, big32 hn⟩, by rw [e]; rfl, .inr ?_⟩
          rw [hlen, e2, List.drop_zero, List.take_of_length_le (Nat.le_refl _), Int.toNat_natCast]
          unfold tblC capU; rfl
      · have hge : ¬ rankK l k < l.length := fun h2 => h (by show (rankK l k : Int) < (l.length : Int); omega)
        have e := atK_end (k := k) hge
        have hr : rankK l k = l.length := by have := rankK_le l k; omega
        have e2 : setK l k v = l ++ [(k, v)] := by
          unfold setK
          rw [e]
          simp only [hr, List.take_length, List.drop_length, List.append_nil]
        rw [e] at hlen
        refine ⟨rfl, bif_decide (fun h2 => absurd h2 h) (fun _ => ⟨⟨rfl, rfl, by rw [hr], big32 hn⟩, by rw [e]; rfl, .inr ?_⟩)⟩
        rw [hlen, e2]
        unfold tblC capU; rfl
    refine hE.mono ?_
    rintro w H ⟨rfl, h⟩
    rw [(optS_flat _).2] at h
    refine ⟨rfl, .inr ?_⟩
    rcases h with ⟨o3, h⟩ | h
    · simp only [List.append_nil, List.map_cons, List.map_nil, List.cons.injEq, and_true] at h
      exact ⟨10, by decide, h.1, h.2.1⟩
    · simp only [List.append_nil, List.map_cons, List.map_nil, List.cons.injEq, and_true] at h
      exact ⟨13, by decide, h.1, h.2.2⟩
end Go.Ideal

set_option maxRecDepth 1000000
namespace Go.Ideal
open Go.Proofs
noncomputable def delQ : TblF :=
  ⟨fun l rest => sortedK l ∧ l.length < 1000000 ∧ ∃ k, rest = [.string k], fun l rest => match rest with
    | [.string k] => optV (atK l k)
    | _ => junk, fun l rest => match rest with
    | [.string k] => delK l k
    | _ => l⟩
theorem iok_del : IOk Tryz.prog tab42 f_ordmap_Map_Delete (footF tab42 9 [true] delQ.G) := by
  refine iok_tbl allS (by kernel_rfl) (n := 32) ?_
  rintro l rest ⟨hs, hn, k, rfl⟩
  refine ⟨by simp, (optV_flat _).1, (optV_flat _).2, ?_, ?_⟩
  · rintro rfl
    have hat : atK [] k = none := atK_end (by simp)
    have hv : delQ.v [] [.string k] = .tuple ⟨[.string { data := #[] }, .bool false]⟩ := by
      show optV (atK [] k) = _
      rw [hat]; rfl
    have hnx : delQ.nx [] [.string k] = [] := by
      show delK [] k = _
      unfold delK
      rw [hat]
    rw [hv, hnx]
    have hE : EndsN XS 10 f_ordmap_Map_Delete (fun w H => w = .tuple ⟨[.string { data := #[] }, .bool false]⟩ ∧ ([9] ++ refsN 4 w).map H.get = [some (.cells [.bool true, .slice none 0 0] 0 false)]) (st f_ordmap_Map_Delete 32 [p9, .string k] (putL ⟨.leaf, 9⟩ tblN)) :=
      EndsIn.toN (VCp_ok pfS_ok (ids := [9]) (Q := fun w os => w = .tuple ⟨[.string { data := #[] }, .bool false]⟩ ∧ os = [some (.cells [.bool true, .slice none 0 0] 0 false)]) 500 _ (by rw [vc_delN]; exact ⟨rfl, rfl, rfl⟩))
    refine hE.mono ?_
    rintro w H ⟨rfl, h⟩
    exact ⟨rfl, .inl ⟨rfl, get1 rfl h⟩⟩
  · have hE : EndsN XS 10 f_ordmap_Map_Delete (fun w H => w = optV (atK l k) ∧ ((∃ o3, ([9, 10, 13] ++ refsN 4 w).map H.get = [some (tblC 10 (delK l k).length), some (.vec kSS (delK l k) false), o3]) ∨
        ([9, 10, 13] ++ refsN 4 w).map H.get = [some (tblC 13 (delK l k).length), none, some (.vec kSS (delK l k) false)])) (st f_ordmap_Map_Delete 32 [p9, .string k] (putL ⟨.leaf, 9⟩ (tblL l))) := by
      refine EndsIn.toN (VCp_ok pfS_ok (ids := [9, 10, 13]) (Q := fun w os => w = optV (atK l k) ∧ ((∃ o3, os = [some (tblC 10 (delK l k).length), some (.vec kSS (delK l k) false), o3]) ∨ os = [some (tblC 13 (delK l k).length), none, some (.vec kSS (delK l k) false)])) 500 _ ?_)
      rw [vc_delL]
      refine ⟨⟨rfl, rfl, hs, by omega⟩, bif_decide (fun h => ?_) (fun h => ?_)⟩
      · have hlt : rankK l k < l.length := by
          have : (rankK l k : Int) < (l.length : Int) := h
          omega
        refine bif_true (ca hlt) (bif_true (cb hlt) (bif_both (fun hc => ?_) (fun hc => ?_)))
        · have e := atK_some hlt hc
          have e2 : delK l k = l.take (rankK l k) ++ l.drop (rankK l k + 1) := by unfold delK; rw [e]
          have hw : IntKind.wrap .i64 ((rankK l k : Int) + 1) = ((rankK l k + 1 : Nat) : Int) := by rw [wrap64 (by omega) (by omega)]; rfl
          have hlen : (delK l k).length = l.length - (rankK l k + 1 - rankK l k) := by
            rw [e2]; simp only [List.length_append, List.length_take, List.length_drop]; omega
          refine ⟨rfl, by rw [hc], rfl, bif_true (cb hlt) ⟨rfl, rfl, bif_true (ca hlt) ⟨rfl, rfl, rfl, bif_true (ca hlt) (bif_true (cb hlt) ⟨⟨rfl, rfl, hs, by omega⟩, ⟨by omega, by omega, ?_, ?_⟩, ?_, .inr ?_⟩)⟩⟩⟩
          · rw [hw]; omega
          · rw [hw]; omega
          · rw [e, Nat.zero_add, Int.toNat_natCast]; rfl
          · rw [hlen, e2, hw, List.drop_zero, List.take_of_length_le (Nat.le_refl _), Int.toNat_natCast, Int.toNat_natCast]
            unfold tblC capU; rfl
        · have e := atK_none hc
          have e2 : delK l k = l := by unfold delK; rw [e]
          refine ⟨rfl, by rw [hc], rfl, bif_true (cb hlt) ⟨rfl, rfl, bif_true (ca hlt) ⟨rfl, rfl, rfl, by rw [e]; rfl, .inl ⟨none, ?_⟩⟩⟩⟩
          rw [e2]
          unfold tblC capU; rfl
      · have e := atK_end (l := l) (k := k) (fun h2 => h (by show (rankK l k : Int) < (l.length : Int); omega))
        have e2 : delK l k = l := by unfold delK; rw [e]
        refine ⟨rfl, by rw [e]; rfl, .inl ⟨none, ?_⟩⟩
        rw [e2]
        unfold tblC capU; rfl
    refine hE.mono ?_
    rintro w H ⟨rfl, h⟩
    rw [(optV_flat _).2] at h
    refine ⟨rfl, .inr ?_⟩
    rcases h with ⟨o3, h⟩ | h
    · simp only [List.append_nil, List.map_cons, List.map_nil, List.cons.injEq, and_true] at h
      exact ⟨10, by decide, h.1, h.2.1⟩
    · simp only [List.append_nil, List.map_cons, List.map_nil, List.cons.injEq, and_true] at h
      exact ⟨13, by decide, h.1, h.2.2⟩
end Go.Ideal

--CASTS
set_option maxRecDepth 1000000
namespace Go.Ideal
open Go.Proofs
theorem vc_new (Q : Value → List (Option IObj) → Prop) : VCp XA pfA f_ordmap_New [9] Q 100 (st f_ordmap_New 3 [] ⟨.leaf, 9⟩) = (
 (Q (.pointer (some ⟨9, 0, none⟩)) [some (.cells [(.bool true), (.slice none 0 0)] 0 false), some (.cells [(.bool true), (.slice none 0 0)] 0 false)])) := by kernel_rfl
end Go.Ideal

set_option maxRecDepth 1000000
namespace Go.Ideal
open Go.Proofs
noncomputable def newTG (args : List Value) (objs : List IObj) : GT :=
  match args, objs with
  | [], [] => .ret ⟨.pointer (some ⟨9, 0, none⟩), [], [.abs (.pack (.table [])) false]⟩
  | _, _ => .fail
theorem iok_newT : IOk Tryz.prog tab42 f_ordmap_New (footF tab42 9 [] newTG) := by
  refine iok_footD allA (by kernel_rfl) (n := 3) (by kernel_rfl) (by kernel_rfl) fun argsc objs x hx hro => ?_
  unfold newTG at hx
  split at hx
  · cases hx
    refine ⟨by simp, ?_⟩
    have h0 : EndsN XA 9 f_ordmap_New (fun w H => w = .pointer (some ⟨9, 0, none⟩) ∧ H.get 9 = some (.cells [.bool true, .slice none 0 0] 0 false)) (st f_ordmap_New 3 [] ⟨.leaf, 9⟩) := by
      refine (EndsIn.toN (VCp_ok pfA_ok (ids := [9]) (Q := fun w os => w = .pointer (some ⟨9, 0, none⟩) ∧ os = [some (.cells [.bool true, .slice none 0 0] 0 false), some (.cells [.bool true, .slice none 0 0] 0 false)]) 100 _ (by rw [vc_new]; exact ⟨rfl, rfl⟩))).mono ?_
      rintro w H ⟨rfl, h⟩
      refine ⟨rfl, ?_⟩
      have h : [H.get 9, H.get 9] = _ := h
      simpa using h
    refine EndsD.shut (Q := fun w H => w = .pointer (some ⟨9, 0, none⟩) ∧ H.get 9 = some (.cells [.bool true, .slice none 0 0] 0 false)) h0.toD ?_
    rintro w H ⟨rfl, h⟩
    refine ⟨_, shut1 (s := .table []) (b := 9) (o := .cells [.bool true, .slice none 0 0] 0 false) .tableNil (.inl (by simp [refsN])) h rfl rfl rfl (.refl _), ?_⟩
    refine tm_new (b := 9) (fun j o hj => by cases hj) (Nat.le_refl _) rfl rfl ?_
    exact (shutH_ok (by simp)).root 9 rfl
  · cases hx
end Go.Ideal

namespace Go.Ideal
noncomputable def keepS (t : Tr Value) (l : List Nat) : Tr Value := liveT id t l
theorem keepS_rel {μ : Inj} {t : Tr Value} {n : Nat} {a : Array Value} (h : TRel μ t n a) (l : List Nat) : TRel μ (keepS t l) n a := by
  refine ⟨h.1, fun i => ?_⟩
  unfold keepS
  rcases look_liveT id t l i with e | e
  · rw [e]; exact .junk _
  · rw [e]; exact h.2 i
def noDreg : List IItem → Bool
  | [] => true
  | .dreg _ _ :: _ => false
  | _ :: r => noDreg r
def lookK : List (FuncId × List Nat) → FuncId → Option (List Nat)
  | [], _ => none
  | p :: r, f => bif Nat.beq p.1 f then some p.2 else lookK r f
noncomputable def thinFr (ks : List (FuncId × List Nat)) : IFrame → IFrame
  | ⟨fn, t, n, todo, ds, r, kd, rd⟩ => match lookK ks fn with
    | some l => ⟨fn, keepS t l, n, todo, ds, r, kd, rd⟩
    | none => ⟨fn, t, n, todo, ds, r, kd, rd⟩
noncomputable def thinH (ks : List (FuncId × List Nat)) : List Nat → IHeap → IHeap
  | [], H => H
  | b :: r, H => match (thinH ks r H).get b with
    | some (.loop ⟨st, pd, fn, t, n, ps, asg, bd, df⟩) => match lookK ks fn with
      | some l => (thinH ks r H).put b (.loop ⟨st, pd, fn, keepS t l, n, ps, asg, bd, df⟩)
      | none => thinH ks r H
    | _ => thinH ks r H
noncomputable def thinC (ks : List (FuncId × List Nat)) (bs : List Nat) (c : Cfg) : Cfg := ⟨c.fr, c.cs.map (thinFr ks), thinH ks bs c.H⟩
section
variable {X : Ctx} {base : Env} {W0 : World} {μ : Inj} {W : World} {N : Nat}
theorem thinH_rel {ks : List (FuncId × List Nat)} : ∀ (bs : List Nat) {H : IHeap}, HRel base W0 μ H W → HRel base W0 μ (thinH ks bs H) W
  | [], H, h => h
  | b :: r, H, h => by
    have h1 := thinH_rel r h (ks := ks)
    unfold thinH
    split
    · rename_i st pd fn t n ps asg bd df hb
      split
      · refine h1.swap hb (fun T o' _ ho => ?_) rfl rfl rfl (fun _ _ hv => hv)
        cases ho with
        | loop _ a R ht hd => exact .loop T ⟨st, pd, fn, _, n, ps, asg, bd, df⟩ a R (keepS_rel ht _) hd
      · exact h1
    · exact h1
theorem top_plain {H H' : IHeap} {g : List Nat} {f : IFrame} {f' : Frame} (h : TopRel X μ H g f f') (hd : noDreg f.todo = true) : TopRel X μ H' [] f f' := by
  cases h with
  | plain fn t n tm todo todo' ds ds' r kd rd rd' ht hi hdd hr => exact .plain _ _ _ _ _ _ _ _ _ _ _ _ ht hi hdd hr
  | drawn => cases hd
theorem fr_thin {ks : List (FuncId × List Nat)} {H H' : IHeap} {g : List Nat} {f : IFrame} {f' : Frame} (h : FRel X μ H g f f') (hd : noDreg f.todo = true) : FRel X μ H' [] (thinFr ks f) f' := by
  cases h with
  | plain fn t n tm todo todo' ds ds' r kd rd rd' ht hi hdd hr =>
    unfold thinFr
    simp only
    split
    · exact .plain _ _ _ _ _ _ _ _ _ _ _ _ (keepS_rel ht _) hi hdd hr
    · exact .plain _ _ _ _ _ _ _ _ _ _ _ _ ht hi hdd hr
  | susp => cases hd
theorem frs_thin {ks : List (FuncId × List Nat)} {H H' : IHeap} {g : List Nat} {l : List IFrame} {l' : List Frame} (h : FsRel X μ H g l l') (hd : (l.all fun f => noDreg f.todo) = true) : FsRel X μ H' [] (l.map (thinFr ks)) l' := by
  induction h with
  | nil => exact .nil
  | cons hf _ ih =>
    simp only [List.all_cons, Bool.and_eq_true] at hd
    exact .cons (g := []) (gs := []) (fr_thin hf hd.1) (ih hd.2)
theorem thin_sim {ks : List (FuncId × List Nat)} {bs : List Nat} {c : Cfg} {Φ : Cfg → Prop} (h1 : noDreg c.fr.todo = true) (h2 : (c.cs.all fun f => noDreg f.todo) = true) (hr : ReachN X N (thinC ks bs c) Φ) : ReachN X N c Φ := by
  intro base W0 hb hok hplan cs0 μ fr cs W hm
  refine hr base W0 hb hok hplan cs0 μ fr cs W ?_
  obtain ⟨hH, hlaid, g, gs, hfr, hcs, hnd⟩ := hm
  exact ⟨thinH_rel bs hH, hlaid, [], [], top_plain hfr h1, frs_thin hcs h2, by simp⟩
end
noncomputable def Stop.canT (X : Ctx) (ks : List (FuncId × List Nat)) (S : Stop) (c : Cfg) : Option Cfg :=
  match stepI X c with
  | some c1 => bif noDreg c1.fr.todo && (c1.cs.all fun f => noDreg f.todo) then
      (bif Nat.ble S.N (thinC ks (S.ids c1) c1).H.next && (S.ids (thinC ks (S.ids c1) c1)).all (fun b => Nat.blt b (thinC ks (S.ids c1) c1).H.next) then
        rwC S.N (S.olds ++ S.ids (thinC ks (S.ids c1) c1)) (S.ids (thinC ks (S.ids c1) c1)) S.live (thinC ks (S.ids c1) c1) else none) else none
  | none => none
noncomputable def VCt (X : Ctx) (pf : Pf) (f : FuncId) (ids : List Nat) (S : Stop) (ks : List (FuncId × List Nat)) (Q : Value → List (Option IObj) → Prop) (R : Cfg → Prop) (n : Nat) : Cfg → Prop :=
  Nat.rec (motive := fun _ => Cfg → Prop) (fun _ => False) (fun _ ih c => match doneF X f c with
    | some (v, H) => Q v ((ids ++ refsN 4 v).map H.get)
    | none => bif S.here c then (match S.canT X ks c with
        | some c2 => R c2
        | none => False)
      else stepK X pf c ih) n
theorem VCt_ok {X : Ctx} {pf : Pf} (hpf : PfOk X pf) {f : FuncId} {ids : List Nat} {S : Stop} {ks : List (FuncId × List Nat)} (hl : (X.laid.all fun p => Nat.blt p.1 S.N) = true) {Q : Value → List (Option IObj) → Prop} {R : Cfg → Prop} {Q' : Value → IHeap → Prop}
    (hQ : ∀ v H, Q v ((ids ++ refsN 4 v).map H.get) → Q' v H) (hR : ∀ c, R c → EndsN X S.N f Q' c) : ∀ (n : Nat) (c : Cfg), VCt X pf f ids S ks Q R n c → EndsN X S.N f Q' c := by
  intro n
  induction n with
  | zero => intro c h; cases h
  | succ n ih =>
    intro c h
    have h : (match doneF X f c with
      | some (v, H) => Q v ((ids ++ refsN 4 v).map H.get)
      | none => bif S.here c then (match S.canT X ks c with
          | some c2 => R c2
          | none => False)
        else stepK X pf c (VCt X pf f ids S ks Q R n)) := h
    split at h
    · rename_i v H e; exact ReachN.here ⟨v, H, e, hQ v H h⟩
    · cases hs : S.here c
      · simp only [hs, cond_false] at h
        exact ReachN.bind (Reach.toN (stepK_ok hpf h)) fun c' hc => ih c' hc
      · simp only [hs, cond_true] at h
        split at h
        · rename_i c2 hc
          unfold Stop.canT at hc
          split at hc
          · rename_i c1 h1
            cases hd : (noDreg c1.fr.todo && (c1.cs.all fun f => noDreg f.todo))
            · simp only [hd, cond_false] at hc; cases hc
            · simp only [hd, cond_true] at hc
              simp only [Bool.and_eq_true] at hd
              cases hb : (Nat.ble S.N (thinC ks (S.ids c1) c1).H.next && (S.ids (thinC ks (S.ids c1) c1)).all (fun b => Nat.blt b (thinC ks (S.ids c1) c1).H.next))
              · simp only [hb, cond_false] at hc; cases hc
              · simp only [hb, cond_true] at hc
                simp only [Bool.and_eq_true] at hb
                have hr := rwC_sim (X := X) hl (Nat.le_of_ble_eq_true hb.1) hb.2 hc (hR c2 h)
                exact ReachN.bind (Reach.toN ((Sim.step h1).reach (Φ := fun c' => c' = c1) rfl)) fun c' e => e ▸ thin_sim hd.1 hd.2 hr
          · cases hc
        · cases h
end Go.Ideal

--CASTS
set_option maxRecDepth 1000000
namespace Go.Ideal
open Go.Proofs
noncomputable def ptb (b : Nat) : Value := .pointer (some ⟨b, 0, none⟩)
noncomputable def cpT (l : List (EK.C kSS)) (i : Int) (x : Value) (H : IHeap → IHeap) : Cfg :=
  ⟨⟨f_ordmap_Map_since, mkT [(2, .func (.yield 12) ⟨[]⟩ ⟨[]⟩), (11, .slice (some ⟨10, 0, some 0⟩) l.length capU), (12, .int .i64 l.length), (13, .int .i64 i)], 25, [.code (pcOf Tryz.prog f_ordmap_Map_since [1, 0, 0]), .inLoop (pcOf Tryz.prog f_ordmap_Map_since [1, 0, 0]), .inBlock 0], [], false, .normal, none⟩,
    [⟨f_ordmap_Map_All_c1, mkT [], 6, [regOf (pcOf Tryz.prog f_ordmap_Map_All_c1 []) 2], [], false, .normal, none⟩,
     ⟨f_ordmap_Map_Copy, mkT [(3, ptb 13)], 34, [.inRangeFunc 12, .inBlock 0, .code (pcOf Tryz.prog f_ordmap_Map_Copy [1, 1, 1, 1])], [⟨.collected 11, ⟨[]⟩⟩], false, .normal, none⟩],
    H ((((((putL ⟨.leaf, 9⟩ [.cells [.bool true, .slice (some ⟨10, 0, some 0⟩) l.length capU] 0 false]).alloc (.vec kSS l false)).alloc (.deferred (some []))).alloc (.loop ⟨.ready, none, f_ordmap_Map_Copy, mkT [(3, ptb 13)], 34, #[19, 20], pcOf Tryz.prog f_ordmap_Map_Copy [1, 1, 1, 0, 1, 0, 0], pcOf Tryz.prog f_ordmap_Map_Copy [1, 1, 1, 0, 1, 0, 1], 11⟩)).alloc (.cells [ptb 14] 0 false)).alloc (.cells [.bool true, x] 0 false))⟩
noncomputable def cp0 (l : List (EK.C kSS)) : Cfg := cpT l 0 (.slice none 0 0) id
noncomputable def cp1 (l : List (EK.C kSS)) (i : Int) (k v : ByteArray) : Cfg := cpT l i (.slice (some ⟨15, 0, none⟩) 1 18446744073709551617) fun H => H.alloc (.cells [.string k, .string v] 2 false)
noncomputable def cp2 (l : List (EK.C kSS)) (i : Int) (n : Nat) (m : List (EK.C kSS)) : Cfg := cpT l i (.slice (some ⟨15, 0, some 0⟩) n capU) fun H => H.alloc (.vec kSS m false)
def cpS : Stop := ⟨f_ordmap_Map_since, 2, 2, 10, [9], [2, 11, 12, 13]⟩
def cpK : List (FuncId × List Nat) := [(f_ordmap_Map_All_c1, []), (f_ordmap_Map_Copy, [3])]
theorem vc_cpS (l : List (EK.C kSS)) (Q : Value → List (Option IObj) → Prop) (R : Cfg → Prop) : VCt X0 noPf f_ordmap_Map_Copy [9, 10] cpS cpK Q R 400 (st f_ordmap_Map_Copy 34 [p9] (putL ⟨.leaf, 9⟩ (tblL l))) = (
 (bif decide (0 ≤ Int.ofNat (List.length l)) && Nat.ble (Int.toNat (Int.ofNat (List.length l))) (List.length l) && decide (0 ≤ 0) && Nat.ble 0 (Int.toNat (Int.ofNat (List.length l))) then
  (R (cp0 l))
 else
  False)) := by kernel_rfl
theorem vc_cp0 (l : List (EK.C kSS)) (Q : Value → List (Option IObj) → Prop) (R : Cfg → Prop) : VCt X0 noPf f_ordmap_Map_Copy [9, 10, 14] cpS cpK Q R 400 (cp0 l) = (
 (bif decide (0 < ((List.length l) : Int)) then
  (bif decide (0 ≤ 0) && Nat.blt 0 (List.length l) then
   (bif Nat.blt 0 (List.length l) then
    (((.pointer (some ⟨14, 0, none⟩)) : Value) = (.pointer (some ⟨14, 0, none⟩))) ∧
    (R (cp1 l 1 (Prod.fst (List.getD l 0 (EK.dflt kSS))) (Prod.snd (List.getD l 0 (EK.dflt kSS)))))
   else
    False)
  else
   False)
 else
  (Q (.pointer (some ⟨14, 0, none⟩)) [some (.cells [(.bool true), (.slice (some ⟨10, 0, (some 0)⟩) (List.length l) 18446744073709551616)] 0 false), some (.vec kSS l false), some (.cells [(.bool true), (.slice none 0 0)] 0 false), some (.cells [(.bool true), (.slice none 0 0)] 0 false)]))) := by kernel_rfl
theorem vc_cp2 (l : List (EK.C kSS)) (i : Int) (n : Nat) (m : List (EK.C kSS)) (Q : Value → List (Option IObj) → Prop) (R : Cfg → Prop) : VCt X0 noPf f_ordmap_Map_Copy [9, 10, 14, 15] cpS cpK Q R 400 (cp2 l i n m) = (
 (bif decide (i < ((List.length l) : Int)) then
  (bif decide (0 ≤ i) && Nat.blt (Int.toNat i) (List.length l) then
   (bif Nat.blt (0 + Int.toNat i) (List.length l) then
    (bif true && Nat.ble (0 + n) (List.length m) && bigOk 32 (n + 1) then
     (((.pointer (some ⟨14, 0, none⟩)) : Value) = (.pointer (some ⟨14, 0, none⟩))) ∧
     (R (cp2 l (IntKind.wrap IntKind.i64 (i + 1)) (n + 1) (List.take n (List.drop 0 m) ++ [(Prod.fst (List.getD l (0 + Int.toNat i) (EK.dflt kSS)), Prod.snd (List.getD l (0 + Int.toNat i) (EK.dflt kSS)))])))
    else
     False)
   else
    False)
  else
   False)
 else
  (Q (.pointer (some ⟨14, 0, none⟩)) [some (.cells [(.bool true), (.slice (some ⟨10, 0, (some 0)⟩) (List.length l) 18446744073709551616)] 0 false), some (.vec kSS l false), some (.cells [(.bool true), (.slice (some ⟨15, 0, (some 0)⟩) n 18446744073709551616)] 0 false), some (.vec kSS m false), some (.cells [(.bool true), (.slice (some ⟨15, 0, (some 0)⟩) n 18446744073709551616)] 0 false)]))) := by kernel_rfl
theorem vc_cpN (Q : Value → List (Option IObj) → Prop) : VCp X0 noPf f_ordmap_Map_Copy [9] Q 400 (st f_ordmap_Map_Copy 34 [p9] (putL ⟨.leaf, 9⟩ tblN)) = (
 (Q (.pointer (some ⟨10, 0, none⟩)) [some (.cells [(.bool true), (.slice none 0 0)] 0 false), some (.cells [(.bool true), (.slice none 0 0)] 0 false)])) := by kernel_rfl
end Go.Ideal

namespace Go.Ideal
theorem reach_flat {H : IHeap} : ∀ (todo : List Nat) (f : Nat) (seen : List Nat), todo.length ≤ f → (∀ n ∈ todo, ∃ p, H.get n = some p ∧ refsO2 p = []) → ∀ x, x ∈ todo → x ∈ reach2 H 0 f todo seen
  | [], _, _, _, _, x, hx => by cases hx
  | n :: r, 0, _, hf, _, _, _ => by simp at hf
  | n :: r, f + 1, seen, hf, hp, x, hx => by
    obtain ⟨p, hg, hr⟩ := hp n (by simp)
    have ih := fun seen' => reach_flat r f seen' (by simpa using hf) (fun m hm => hp m (by simp [hm]))
    rw [reach2]
    cases hc : (Nat.blt n 0 || seen.any (Nat.beq n))
    · simp only [cond_false, hg, hr, List.nil_append]
      rcases List.mem_cons.1 hx with rfl | hx
      · exact reach2_seen H 0 _ _ _ x (by simp)
      · exact ih _ x hx
    · simp only [cond_true]
      rcases List.mem_cons.1 hx with rfl | hx
      · have hs : seen.any (Nat.beq x) = true := by
          have hz : Nat.blt x 0 = false := rfl
          rw [hz, Bool.false_or] at hc; exact hc
        obtain ⟨y, hy, he⟩ := List.any_eq_true.1 hs
        rw [Nat.eq_of_beq_eq_true he]
        exact reach2_seen H 0 _ _ _ y hy
      · exact ih _ x hx
theorem shutStar {D : Nat → Prop} {v : Value} {H H2 : IHeap} {s : Pk} {b : Nat} {ns : List Nat} {o o1 : IObj} {ps : List IObj} (hr : pkReps s (o :: ps)) (hD : b ∈ refsN 4 v ∨ D b) (hl : ns.length = ps.length) (hnd : (b :: ns).Nodup)
    (hg : H.get b = some o1) (hro : o1.ro = false) (hp : o1.packs = true) (hren : renO (fun i => (b :: ns)[i]?) o = some o1) (href : ∀ n ∈ ns, n ∈ refsO2 o1) (hrefs : ∀ n ∈ refsO2 o1, n ∈ ns) (hlr : (refsO2 o1).length ≤ 100)
    (hps : ∀ (i n : Nat) (p : IObj), ns[i]? = some n → ps[i]? = some p → ∃ p1, H.get n = some p1 ∧ p1.ro = false ∧ p1.packs = true ∧ refsO2 p1 = [] ∧ renO (fun i => (b :: ns)[i]?) p = some p1)
    (k : ShutsTo D v (shutH s (b :: ns) H) H2)
    (hx0 : pkExt s = [] := by rfl) (hroot : ∀ T, ¬ o.void T := by intro _; exact id) : ShutsTo D v H H2 := by
  have hflat : ∀ n ∈ ns, ∃ p, H.get n = some p ∧ refsO2 p = [] := by
    intro n hn
    obtain ⟨i, hi, e⟩ := List.getElem_of_mem hn
    obtain ⟨p1, h1, _, _, h4, _⟩ := hps i n _ (by rw [List.getElem?_eq_getElem hi, e]) (List.getElem?_eq_getElem (by omega))
    exact ⟨p1, h1, h4⟩
  have hreach : ∀ x ∈ b :: ns, x ∈ reach2 H 0 200 [b] [] := by
    intro x hx
    rw [reach_one hg rfl, List.append_nil, List.nil_append]
    rcases List.mem_cons.1 hx with rfl | hx
    · exact reach2_seen H 0 _ _ _ x (by simp)
    · exact reach_flat _ _ _ (by omega) (fun n hn => hflat n (hrefs n hn)) x (href x hx)
  refine .step s (o :: ps) (b :: ns) [b] hr (by simp) (by simp [hl]) hnd (fun x hx => by simp at hx; rw [hx]; exact hD) hreach (fun i x q hx hq => ?_) (fun q T hq => by cases hq; exact hroot T) k
  cases i with
  | zero => cases hx; cases hq; exact ⟨o1, hg, hro, hp, by rw [hx0, gren_nil]; exact hren⟩
  | succ i =>
    obtain ⟨p1, h1, h2, h3, _, h5⟩ := hps i x q hx hq
    exact ⟨p1, h1, h2, h3, by rw [hx0, gren_nil]; exact h5⟩
noncomputable def allocs (H : IHeap) : List IObj → IHeap
  | [] => H
  | o :: r => allocs (H.alloc o) r
theorem allocs_next : ∀ (l : List IObj) (H : IHeap), (allocs H l).next = H.next + l.length
  | [], _ => rfl
  | o :: r, H => by rw [allocs, allocs_next r]; show H.next + 1 + r.length = _; simp; omega
theorem allocs_get : ∀ (l : List IObj) (H : IHeap) (x : Nat), (allocs H l).get x = if H.next ≤ x then (match l[x - H.next]? with | some o => some o | none => H.get x) else H.get x
  | [], H, x => by simp [allocs]
  | o :: r, H, x => by
    rw [allocs, allocs_get r]
    show (if H.next + 1 ≤ x then _ else _) = _
    by_cases h1 : H.next + 1 ≤ x
    · rw [if_pos h1, if_pos (by omega)]
      show (match r[x - (H.next + 1)]? with | some o => some o | none => (H.alloc o).get x) = _
      have e : x - H.next = (x - (H.next + 1)) + 1 := by omega
      rw [e, List.getElem?_cons_succ]
      have e2 : (H.alloc o).get x = H.get x := by rw [IHeap.get_alloc, if_neg (by omega)]
      rw [e2]
    · rw [if_neg h1, IHeap.get_alloc]
      by_cases h2 : x = H.next
      · subst h2; simp
      · rw [if_neg h2, if_neg (by omega)]
theorem openedAll {H : IHeap} {b : Nat} {ro : Bool} {o o1 : IObj} {ps ps1 : List IObj} (hlt : b < H.next) (hf : ∀ x, H.next ≤ x → H.get x = none) (hl : ps1.length = ps.length) (h0 : renO (packRen b H.next (ps.length + 1)) (roIf ro o) = some o1)
    (hps : ∀ (i : Nat) (p : IObj), ps[i]? = some p → ∃ p1, ps1[i]? = some p1 ∧ renO (packRen b H.next (ps.length + 1)) (roIf ro p) = some p1) : Opened H b ro (o :: ps) (allocs (H.put b o1) ps1) := by
  have hnx : (H.put b o1).next = H.next := rfl
  refine ⟨by rw [allocs_next, hnx, hl]; simp, fun x hx hx2 => ?_, fun x hx => ?_, fun i p hp => ?_⟩
  · rw [allocs_get, hnx, if_neg (by omega), IHeap.get_put, if_neg hx]
  · rw [allocs_next, hnx] at hx
    rw [allocs_get, hnx, if_pos (by omega), List.getElem?_eq_none (by omega)]
    show (H.put b o1).get x = none
    rw [IHeap.get_put, if_neg (by omega)]; exact hf x (by omega)
  · cases i with
    | zero =>
      cases hp
      refine ⟨o1, h0, ?_⟩
      show (allocs (H.put b o1) ps1).get b = _
      rw [allocs_get, hnx, if_neg (by omega), IHeap.get_put, if_pos rfl]
    | succ i =>
      obtain ⟨p1, h1, h2⟩ := hps i p hp
      refine ⟨p1, h2, ?_⟩
      have e : packName b H.next (i + 1) = H.next + i := by unfold packName; rw [if_neg (by omega)]; rfl
      rw [e, allocs_get, hnx, if_pos (by omega), show H.next + i - H.next = i by omega, h1]
end Go.Ideal
