/-
  Part of the proof: the machine that runs a program by fixed orders, and that each of its runs is a run of the model; or a run of it in parts. No conditions.
-/
import Derived.Test.YtjaogllgillaiaaGreatDoorIdSim5
namespace Go.Ideal
section
variable {X : Ctx} {base : Env} {W0 : World} {μ : Inj} {H : IHeap} {W : World}

/-- An operation of the first two classes needs no frame. -/
theorem operI_plain {o : Oper} {fr : IFrame} {cs : List IFrame} {c' : Cfg} (hc : clsOf X.P o ≠ 2) (h : operI X o fr cs H = some c') : ∃ v H' fr1, iop X.P (ieval X fr.tmps) o H = some (v, H') ∧ finishI fr v = some fr1 ∧ c' = ⟨fr1, cs, H'⟩ := by
  have key : (match iop X.P (ieval X fr.tmps) o H with
      | some (v, H') => match finishI fr v with
        | some fr' => some (⟨fr', cs, H'⟩ : Cfg)
        | none => none
      | none => none) = some c' → ∃ v H' fr1, iop X.P (ieval X fr.tmps) o H = some (v, H') ∧ finishI fr v = some fr1 ∧ c' = ⟨fr1, cs, H'⟩ := by
    intro hm
    split at hm
    · rename_i v H' hio
      split at hm
      · rename_i fr1 hfin
        cases hm
        exact ⟨v, H', fr1, hio, hfin, rfl⟩
      · cases hm
    · cases hm
  unfold operI at h
  split at h
  · rename_i c hop
    split at h
    · rename_i b hcal
      cases hb : isRec b
      · simp only [hb, cond_false] at h; exact key h
      · exfalso
        apply hc
        unfold clsOf
        rw [hop]
        simp only [hcal]
        cases b <;> first | rfl | cases hb
    · rename_i f hcal
      exfalso
      apply hc
      unfold clsOf
      rw [hop]
      simp only [hcal]
    · cases h
  · rename_i c hop
    exact absurd hop (cls_defer hc c)
  · exact key h

/-- The ideal machine goes ahead. -/
theorem DRel.ahead {ops : Array Oper} {t : Tr Value} {n i d : Nat} {tm : Array Value} {D : List Nat} {rest : List PE} {idx : List Nat} {G G' : List (Nat × Nat)} {o : Oper} {v : Value} {H' : IHeap} (ho : ops[i]? = some o) (hd : o.dst = some d) (hdn : d < n) (hcls : clsOf X.P o ≠ 2)
    (h : DRel X μ H ops t n tm D (.op i o :: rest) idx G (FactNow X H t (.op i o :: rest))) (hext : HExt H H') (hn : H.next ≤ H'.next)
    (hG : ∀ p ∈ G, p ∈ G') (hnew : PenOf X μ H' ops (t.put d (some v)) G' (FactNow X H' (t.put d (some v)) rest) i o) (hgnd : (G'.map Prod.snd).Nodup) (hglt : ∀ b ∈ G'.map Prod.snd, b < H'.next) :
    DRel X μ H' ops (t.put d (some v)) n tm (i :: D) rest idx G' (FactNow X H' (t.put d (some v)) rest) := by
  obtain ⟨hiD, hdeps, hok, _⟩ := okPlan_op h.okp
  refine ⟨h.stat, fun e he => h.wf e (by simp [he]), hok, h.topo, ?_, ?_, h.sz, ?_, ?_, ?_, hgnd, hglt⟩
  · intro j oj hj hnj
    obtain ⟨h1, h2⟩ := h.clo j oj hj hnj
    exact ⟨by simp [h1], h2⟩
  · intro j oj hj hjD q hq
    rcases List.mem_cons.1 hjD with rfl | hjD
    · rw [ho] at hj; cases hj; simp [hdeps q hq]
    · simp [h.dcl j oj hj hjD q hq]
  · intro u hu
    have hui : i ∈ idx := by
      rcases Classical.em (i ∈ idx) with q | q
      · exact q
      · exact absurd (h.clo i o ho q).1 hiD
    have hne : u ≠ d := by rintro rfl; exact hu i o ho (by simp) hui hd
    rw [look_put_ne _ _ hne]
    exact h.tmp u fun j oj hj hjD hji => hu j oj hj (by simp [hjD]) hji
  · intro j oj hj hjD hji
    rcases List.mem_cons.1 hjD with rfl | hjD
    · rw [ho] at hj; cases hj; exact hnew
    · have hap := h.apart ho hiD hd hj hjD (fun q => absurd q hcls)
      have hlook : ∀ u, u ≠ d → look (t.put d (some v)) u = look t u := fun u hu => look_put_ne _ _ hu
      have hr : ∀ u ∈ readsOf ops oj, look (t.put d (some v)) u = look t u := fun u hu => hlook u (by rintro rfl; exact hap.1 hu)
      have hdj : ∀ q, oj.dst = some q → look (t.put d (some v)) q = look t q := fun q hq => hlook q (by rintro rfl; exact hap.2 hq)
      have hp : PenOf X μ H ops (t.put d (some v)) G (FactNow X H' (t.put d (some v)) rest) j oj := by
        refine (h.pen j oj hj hjD hji).congr hr hdj fun q hq _ hc0 hf => ?_
        rcases hf with hf | ⟨H1, hf⟩
        · simp [lead] at hf
        · refine .inr ⟨H', ?_⟩
          rw [iop_tmps hr, hdj q hq]
          exact (iop_zero hc0 hf).2 H' hext
      obtain ⟨q, h1, h0, h2⟩ := hp
      refine ⟨q, h1, h0, ?_⟩
      rcases h2 with h2 | h2 | ⟨a, b, c, hc, obj, mk, e1, e2, e3, e4, e5⟩
      · exact .inl h2
      · exact .inr (.inl h2)
      · exact .inr (.inr ⟨a, b, c, hG _ hc, obj, mk, e1, e2, Nat.lt_of_lt_of_le e3 hn, e4, hext _ _ e5⟩)
  · intro j oj q hj hjD hq
    rcases List.mem_cons.1 hjD with rfl | hjD
    · rw [ho] at hj; cases hj
      rw [hd] at hq; cases hq; exact hdn
    · exact h.dlt j oj q hj hjD hq

theorem drawn_sim (hok : IntrOk X base W0) {fn : FuncId} {t : Tr Value} {n : Nat} {tm : Array Value} {ops : Array Oper} {plan : List PE} {idx D : List Nat} {G : List (Nat × Nat)} {k : List IItem} {k' : List Item} {ds ds' : List Deferred} {kd : CallKind} {rd rd' : Option Nat}
    {cs : List IFrame} {cs' cs0 : List Frame} {gs : List Nat} {c' : Cfg} (hH : HRel base W0 μ H W) (hlaid : LaidRel X μ) (hD : DRel X μ H ops t n tm D plan idx G (FactNow X H t plan)) (hk : ItsRel μ k k') (hd : DefsRel μ ds ds') (hr : RdRel μ rd rd')
    (hcs : FsRel X μ H gs cs cs') (hnd : (G.map Prod.snd ++ gs).Nodup) (h : stepI X ⟨⟨fn, t, n, .dreg ops plan :: k, ds, false, kd, rd⟩, cs, H⟩ = some c') :
    StepSim X base W0 cs0 c' (lone ⟨fn, tm, .inRegion ops idx :: k', ds', .run, kd, rd'⟩ (cs' ++ cs0) W) := by
  unfold stepI at h
  simp only [cond_false] at h
  cases plan with
  | nil =>
    simp only [Option.some.injEq] at h
    subst h
    have hall : ∀ j ∈ idx, j ∈ D := by
      intro j hj
      have hlt : ∀ (l : List Nat), Topo ops l → ∀ j ∈ l, j < ops.size := by
        intro l
        induction l with
        | nil => intro _ j hj; cases hj
        | cons a l ih =>
          intro ht j hj
          obtain ⟨⟨o, ho, _⟩, _, h3⟩ := ht
          rcases List.mem_cons.1 hj with rfl | hj
          · exact (Array.getElem?_eq_some_iff.1 ho).1
          · exact ih h3 j hj
      have hok := hD.okp
      unfold okPlan at hok
      exact memB_iff.1 (List.all_eq_true.1 hok j (by simpa using hlt idx hD.topo j hj))
    obtain ⟨μ1, W1, tm1, G1, q1, q2, q3, q4⟩ := flushAll (fn := fn) (k' := k') (ds' := ds') (kd := kd) (rd' := rd') (cs := cs' ++ cs0) (gs := gs) rfl idx μ W tm G hH hlaid hD hall hnd
    refine ⟨μ1, _, cs', W1, q1.trans (.one c_regionEnd), q2, hlaid.mono q4.le, [], gs, .plain fn t n tm1 k k' ds ds' false kd rd rd' ⟨q3.sz, fun u => q3.tmp u fun _ _ _ _ hm => by cases hm⟩ (hk.mono q4.le) (hd.mono q4.le) (hr.mono q4.le), hcs.mono q4, (List.nodup_append.1 hnd).2.1⟩
  | cons e rest =>
    cases e with
    | chk j o =>
      simp only at h
      have hoj : ops[j]? = some o := hD.wf (.chk j o) (by simp)
      have hokp := hD.okp
      unfold okPlan at hokp
      simp only [Bool.and_eq_true] at hokp
      have hwf : PlanWf ops rest := fun e he => hD.wf e (by simp [he])
      have fin : (∀ d, o.dst = some d → wantedI ops o t = some true → clsOf X.P o = 0 → ∃ H1, iop X.P (ieval X t) o H = some (look t d, H1)) → c' = ⟨⟨fn, t, n, .dreg ops rest :: k, ds, false, kd, rd⟩, cs, H⟩ →
          StepSim X base W0 cs0 c' (lone ⟨fn, tm, .inRegion ops idx :: k', ds', .run, kd, rd'⟩ (cs' ++ cs0) W) := by
        rintro hfact rfl
        refine ⟨μ, _, cs', W, .refl _ _, hH, hlaid, G.map Prod.snd, gs, .drawn fn t n tm ops rest idx D G k k' ds ds' kd rd rd' ⟨hD.stat, hwf, hokp.2, hD.topo, hD.clo, hD.dcl, hD.sz, hD.tmp, fun i oi hi hiD hii => ?_, hD.dlt, hD.gnd, hD.glt⟩ hk hd hr, hcs, hnd⟩
        refine (hD.pen i oi hi hiD hii).congr (fun _ _ => rfl) (fun _ _ => rfl) fun d hdd hw hc0 hf => ?_
        rcases hf with hf | hf
        · simp only [lead, List.mem_cons] at hf
          rcases hf with rfl | hf
          · rw [hoj] at hi; cases hi
            exact .inr (hfact d hdd hw hc0)
          · exact .inl hf
        · exact .inr hf
      split at h
      · rename_i hw
        split at h
        · rename_i d v H1 hdd hio
          cases hs : sameN 8 v (look t d)
          · simp [hs] at h
          · simp only [hs, cond_true, Option.some.injEq] at h
            refine fin (fun d2 hd2 _ _ => ?_) h.symm
            rw [hdd] at hd2; cases hd2
            exact ⟨H1, by rw [hio, sameN_eq 8 _ _ hs]⟩
        · cases h
      · rename_i hw
        simp only [Option.some.injEq] at h
        exact fin (fun d _ hw2 _ => by rw [hw] at hw2; cases hw2) h.symm
      · cases h
    | op i o =>
      simp only at h
      have hoi : ops[i]? = some o := hD.wf (.op i o) (by simp)
      obtain ⟨hiD, hdeps, hokr, hX⟩ := okPlan_op hD.okp
      have hii : i ∈ idx := by
        rcases Classical.em (i ∈ idx) with q | q
        · exact q
        · exact absurd (hD.clo i o hoi q).1 hiD
      by_cases hcls : clsOf X.P o = 2
      · -- both together
        obtain ⟨μ1, W1, tm1, G1, idx1, q1, q2, q3, q4, q5⟩ := flushTo (fn := fn) (k' := k') (ds' := ds') (kd := kd) (rd' := rd') (cs := cs' ++ cs0) (gs := gs) hcls idx μ W tm G hH hlaid hD hii hnd
        have hlaid1 := hlaid.mono q4.le
        have hcs1 := hcs.mono q4
        have hnd1 : (G1.map Prod.snd ++ gs).Nodup := hnd.sublist (q5.append (List.Sublist.refl _))
        have hsus := q3.suspend hcls hoi
        have hfr : ∀ ds1 ds1', DefsRel μ1 ds1 ds1' → FRel X μ1 H (G1.map Prod.snd) ⟨fn, t, n, .dreg ops (.op i o :: rest) :: k, ds1, false, kd, rd⟩ ⟨fn, tm1, .inRegion ops (i :: idx1) :: k', ds1', .run, kd, rd'⟩ := fun ds1 ds1' hd1 =>
          .susp fn t n tm1 ops i o rest idx1 D G1 k k' ds1 ds1' kd rd rd' hoi hsus (hk.mono q4.le) hd1 (hr.mono q4.le)
        have hreads := q3.reads hoi
        have hwant : ∀ b, wantedI ops o t = some b → Region.wanted o (yielded ops tm1) = b := fun b hb => wanted_rel' (fun q w u hg hu => hreads u (reads_guard hg hu)) hb
        have after : ∀ {m : Machine}, StepSim X base W0 cs0 c' m → Steps X.P (lone ⟨fn, tm, .inRegion ops idx :: k', ds', .run, kd, rd'⟩ (cs' ++ cs0) W) m → StepSim X base W0 cs0 c' (lone ⟨fn, tm, .inRegion ops idx :: k', ds', .run, kd, rd'⟩ (cs' ++ cs0) W) := by
          rintro m ⟨a1, a2, a3, a4, a5, a6⟩ hs
          exact ⟨a1, a2, a3, a4, hs.trans a5, a6⟩
        split at h
        · rename_i hw
          refine after (oper_sim hok q2 hlaid1 hoi (hd.mono q4.le) (hr.mono q4.le) hcs1 hnd1 hfr (fun x hx => eval_rel' hlaid1 x fun u hu => hreads u (reads_tmp (by rw [← hu]; exact hx))) (hwant true hw) h) q1
        · rename_i hw
          split at h
          · rename_i fr1 hfin
            cases h
            refine after ⟨μ1, _, cs', W1, .one (c_opSkip hoi (hwant false hw)), q2, hlaid1, G1.map Prod.snd, gs, finish_rel (hfr ds ds' (hd.mono q4.le)) (VRel.undef μ1) hfin, hcs1, hnd1⟩ q1
          · cases h
        · cases h
      · -- the ideal machine alone
        obtain ⟨d, hdd⟩ := stat_dst hD.stat hoi hcls
        have hcl01 : clsOf X.P o = 0 ∨ clsOf X.P o = 1 := by
          have : clsOf X.P o ≤ 2 := by
            unfold clsOf
            split <;> first | omega | (split <;> first | omega | (split <;> omega))
          omega
        have hself : ∀ u ∈ readsOf ops o, u ≠ d := fun u hu e => (stat_reads hD.stat hoi hoi hu (by rw [e]; exact hdd)).elim (fun q => hiD (hdeps i q)) fun q => hcls q.1
        have hrd : ∀ v : Value, ∀ u ∈ readsOf ops o, look (t.put d (some v)) u = look t u := fun v u hu => look_put_ne _ _ (hself u hu)
        have hfinI : ∀ v fr1, finishI ⟨fn, t, n, .dreg ops (.op i o :: rest) :: k, ds, false, kd, rd⟩ v = some fr1 → d < n ∧ fr1 = ⟨fn, t.put d (some v), n, .dreg ops rest :: k, ds, false, kd, rd⟩ := by
          intro v fr1 hf
          unfold finishI at hf
          rw [forceV_eq] at hf
          simp only [hdd] at hf
          cases hlt : Nat.blt d n
          · simp [hlt] at hf
          · simp only [hlt, cond_true, Option.some.injEq] at hf
            exact ⟨Nat.le_of_ble_eq_true hlt, hf.symm⟩
        split at h
        · rename_i hw
          obtain ⟨v, H', fr1, hio, hfin, rfl⟩ := operI_plain hcls h
          obtain ⟨hdn, rfl⟩ := hfinI v fr1 hfin
          have hio0 : iop X.P (ieval X t) o H = some (v, H') := hio
          rcases hcl01 with hc | hc
          · obtain ⟨rfl, _⟩ := iop_zero hc hio0
            refine ⟨μ, _, cs', W, .refl _ _, hH, hlaid, G.map Prod.snd, gs, .drawn fn _ n tm ops rest idx (i :: D) G k k' ds ds' kd rd rd' (hD.ahead hoi hdd hdn hcls (fun _ _ hb => hb) (Nat.le_refl _) (fun _ hp => hp) ⟨d, hdd, hcls, .inr (.inl ⟨by rw [wantedI_congr (hrd v)]; exact hw, hc, .inr ⟨H', ?_⟩⟩)⟩ hD.gnd hD.glt) hk hd hr, hcs, hnd⟩
            rw [iop_tmps (hrd v), look_put_same]; exact hio0
          · obtain ⟨obj, mk, rfl, rfl, h3, h4, _⟩ := iop_one hc hio0
            have hfresh := hH.fresh H.next (Nat.le_refl _)
            have hnG : H.next ∉ G.map Prod.snd := fun hm => Nat.lt_irrefl _ (hD.glt _ hm)
            have hngs : H.next ∉ gs := fun hm => Nat.lt_irrefl _ (hcs.lt _ hm)
            have hext := HExt.alloc hH obj
            have hkeep : Keeps gs μ H μ (H.alloc obj) := ⟨Inj.le_refl _, by simp [IHeap.alloc], fun b _ hb hm => ⟨hm, by rw [IHeap.get_alloc, if_neg (by omega)]⟩⟩
            refine ⟨μ, _, cs', W, .refl _ _, hH.ghost obj, hlaid, ((i, H.next) :: G).map Prod.snd, gs, .drawn fn _ n tm ops rest idx (i :: D) ((i, H.next) :: G) k k' ds ds' kd rd rd' (hD.ahead hoi hdd hdn hcls hext (by simp [IHeap.alloc]) (fun _ hp => by simp [hp])
              ⟨d, hdd, hcls, .inr (.inr ⟨by rw [wantedI_congr (hrd _)]; exact hw, hc, H.next, by simp, obj, mk, look_put_same _ _ _, fun H2 => by rw [iop_tmps (hrd _)]; exact h3 H2, by simp [IHeap.alloc], hfresh.2, by rw [IHeap.get_alloc, if_pos rfl]⟩)⟩
              (by simp only [List.map_cons, List.nodup_cons]; exact ⟨hnG, hD.gnd⟩) ?_) hk hd hr, hcs.mono hkeep, ?_⟩
            · intro b hb
              simp only [List.map_cons, List.mem_cons] at hb
              rcases hb with rfl | hb
              · simp [IHeap.alloc]
              · have := hD.glt b hb; simp only [IHeap.alloc]; omega
            · simp only [List.map_cons, List.cons_append, List.nodup_cons]
              exact ⟨fun hm => (List.mem_append.1 hm).elim hnG hngs, hnd⟩
        · rename_i hw
          split at h
          · rename_i fr1 hfin
            cases h
            obtain ⟨hdn, rfl⟩ := hfinI _ fr1 hfin
            exact ⟨μ, _, cs', W, .refl _ _, hH, hlaid, G.map Prod.snd, gs, .drawn fn _ n tm ops rest idx (i :: D) G k k' ds ds' kd rd rd' (hD.ahead hoi hdd hdn hcls (fun _ _ hb => hb) (Nat.le_refl _) (fun _ hp => hp) ⟨d, hdd, hcls, .inl ⟨by rw [wantedI_congr (hrd _)]; exact hw, look_put_same _ _ _⟩⟩ hD.gnd hD.glt) hk hd hr, hcs, hnd⟩
          · cases h
        · cases h

end
end Go.Ideal
