/-
  Part of the proof: the machine that runs a program by fixed orders, and that each of its runs is a run of the model; or a run of it in parts. No conditions.
-/
import Derived.Test.YtjaogllgillaiaaGreatDoorIdDrawn
namespace Go.Ideal
section
variable {X : Ctx} {base : Env} {W0 : World} {μ : Inj} {H : IHeap} {W : World}

theorem step_sim (hok : IntrOk X base W0) (hplan : PlanOk X) {c c' : Cfg} {fr : Frame} {cs' cs0 : List Frame} (hm : MRel X base W0 μ c fr cs' W) (h : stepI X c = some c') :
    StepSim X base W0 cs0 c' (lone fr (cs' ++ cs0) W) := by
  obtain ⟨hH, hlaid, g, gs, hfr, hcs, hnd⟩ := hm
  obtain ⟨f0, cs, H⟩ := c
  simp only at hH hfr hcs
  cases hfr with
  | drawn fn t n tm ops plan idx D G k k' ds ds' kd rd rd' hD hk hd hr => exact drawn_sim hok hH hlaid hD hk hd hr hcs hnd h
  | plain fn t n tm todo todo' ds ds' r kd rd rd' ht hi hd hrd =>
    unfold stepI at h
    simp only at h
    cases r with
    | true =>
      simp only [cond_true] at h
      exact stepRet_sim hH hlaid ht hi hd hrd hcs hnd h
    | false =>
      simp only [cond_false] at h
      have fin : ∀ (k2 : List IItem) (k2' : List Item) , ItsRel μ k2 k2' → step X.P (lone ⟨fn, tm, todo', ds', .run, kd, rd'⟩ (cs' ++ cs0) W) = .next (lone ⟨fn, tm, k2', ds', .run, kd, rd'⟩ (cs' ++ cs0) W) →
          c' = ⟨⟨fn, t, n, k2, ds, false, kd, rd⟩, cs, H⟩ → StepSim X base W0 cs0 c' (lone ⟨fn, tm, todo', ds', modeOf false, kd, rd'⟩ (cs' ++ cs0) W) := by
        rintro k2 k2' hk2 hs rfl
        exact ⟨μ, _, cs', W, .one hs, hH, hlaid, [], gs, .plain fn t n tm k2 k2' ds ds' false kd rd rd' ht hk2 hd hrd, hcs, hnd⟩
      cases hi with
      | nil => exact leaveI_sim hH hlaid ht .nil hd hrd hcs hnd (.inl ⟨rfl, rfl⟩) h
      | @cons it it' k k' h1 hk =>
        simp only at h
        cases h1 with
        | reg ops l idx hidx =>
          simp only at h
          split at h
          · cases idx with
            | nil => exact fin k k' hk c_regionEnd (by cases h; rfl)
            | cons i idx => simp at hidx
          · rename_i o rest
            cases idx with
            | nil => simp at hidx
            | cons i idx =>
              simp only [List.map_cons, List.cons.injEq] at hidx
              split at h
              · rename_i hw
                refine oper_sim hok hH hlaid hidx.1 hd hrd hcs hnd (fun ds1 ds1' hd1 => .plain fn t n tm _ _ ds1 ds1' false kd rd rd' ht (.cons (.reg ops _ _ (by simp [hidx.1, hidx.2])) hk) hd1 hrd) (fun x _ => eval_rel hlaid ht x) (wanted_rel ht hw) h
              · rename_i hw
                split at h
                · rename_i fr1 hfin
                  cases h
                  refine ⟨μ, _, cs', W, .one (c_opSkip hidx.1 (wanted_rel ht hw)), hH, hlaid, [], gs, ?_, hcs, hnd⟩
                  exact finish_rel (.plain fn t n tm _ _ ds ds' false kd rd rd' ht (.cons (.reg ops (o :: rest) (i :: idx) (by simp [hidx.1, hidx.2])) hk) hd hrd) (VRel.undef μ) hfin
                · cases h
              · cases h
        | code c =>
          simp only at h
          split at h
          · rename_i a b; exact fin _ _ (.cons (.code a) (.cons (.code b) hk)) c_seq (by cases h; rfl)
          · rename_i id ops
            exact fin _ _ (.cons (.reg ops ops.toList _ (range_map ops)) hk) c_region (by cases h; rfl)
          · rename_i id ops
            split at h
            · rename_i p hp
              cases h
              obtain ⟨hmix, hpl⟩ := hplan
              obtain ⟨q1, q2, q3⟩ := hpl ops p hp
              obtain ⟨s1, s2⟩ := sched_ok q2 q3 (W.tape W.drawn (.order fn id))
              have hdr := c_draw (P := X.P) (W := W) (fn := fn) (tm := tm) (k := k') (ds := ds') (kd := kd) (rd := rd') (cs := cs' ++ cs0) (id := id) (ops := ops)
              rw [hmix] at hdr
              refine ⟨μ, _, cs', _, .one hdr, hH.drawn _, hlaid, [], gs, ?_, hcs, hnd⟩
              refine .drawn fn t n tm ops p _ [] [] k k' ds ds' kd rd rd' ⟨q1, q2, q3, s1, fun i o ho hni => absurd (s2 i (Array.getElem?_eq_some_iff.1 ho).1) hni, (fun _ _ _ h => by cases h), ht.1, fun u _ => ht.2 u, (fun _ _ _ h => by cases h), (fun _ _ _ _ h => by cases h), by simp, fun b hb => by simp at hb⟩ hk hd hrd
            · cases h
          · rename_i cnd a b
            have hev := eval_rel (fr := ⟨fn, tm, .code (.cond cnd a b) :: k', ds', .run, kd, rd'⟩) hlaid ht cnd
            split at h
            · rename_i x hx
              rw [hx] at hev
              have hev' : Frame.eval ⟨fn, tm, .code (.cond cnd a b) :: k', ds', .run, kd, rd'⟩ cnd = .bool x := by
                generalize Frame.eval ⟨fn, tm, .code (.cond cnd a b) :: k', ds', .run, kd, rd'⟩ cnd = q at hev
                cases hev; rfl
              exact fin _ _ (.cons (.code _) hk) (c_cond hev') (by cases h; rfl)
            · cases h
          · exact fin _ _ hk c_skip (by cases h; rfl)
          · exact fin _ _ hk c_label (by cases h; rfl)
          · rename_i id b; exact fin _ _ (.cons (.code b) (.cons (.inBlock id) hk)) c_block (by cases h; rfl)
          · rename_i b; exact fin _ _ (.cons (.code b) (.cons (.inLoop b) hk)) c_loop (by cases h; rfl)
          · rename_i b; exact fin _ _ (.cons (.code b) (.cons (.inScope b) hk)) c_scope (by cases h; rfl)
          · rename_i id
            have hex := exitTo_rel (id := id) hk
            split at h
            · rename_i k2 hq
              obtain ⟨k2', q1, q2⟩ := hex.1 k2 hq
              exact fin _ _ q2 (c_exit q1) (by cases h; rfl)
            · rename_i hq
              exact leaveI_sim hH hlaid ht (.cons (.code _) hk) hd hrd hcs hnd (.inr (.inr ⟨id, k', rfl, hex.2 hq, rfl⟩)) h
          · exact leaveI_sim hH hlaid ht (.cons (.code _) hk) hd hrd hcs hnd (.inr (.inl ⟨k', rfl, rfl⟩)) h
          · rename_i f ps a b
            split at h
            · rename_i l
              cases hrd with
              | some _ T hT =>
                split at h
                · rename_i q hget
                  obtain ⟨o', ho', hor⟩ := hH.obj l _ hget T hT
                  cases hor with
                  | loop _ aa R hta hda =>
                    have hal := hH.alloc (T := ⟨W.heap.size, 0, 0, 0⟩) (o := .loop ⟨.ready, none, fn, t, n, ps, a, b, q.defers⟩) rfl (.loop ⟨W.heap.size, 0, 0, 0⟩ ⟨.ready, none, fn, t, n, ps, a, b, q.defers⟩ tm R ht hda)
                    obtain ⟨g1, g2⟩ := hal
                    refine rangeCall_sim hok (mark := []) (T := ⟨W.heap.size, 0, 0, 0⟩) g1 (hlaid.mono g2.le) (ht.mono g2.le) (hk.mono g2.le) (hd.mono g2.le) (.some l T (g2.le _ _ hT)) (hcs.mono (g2.keeps gs)) hnd (Inj.ext_same _ _ _) (enterLoop_some ho') h
                · cases h
            · cases hrd
              have hal1 := hH.alloc (T := ⟨W.heap.size, 0, 0, 0⟩) (o := .deferred (some [])) (o' := .deferred (some [])) rfl (.deferred _ [] [] .nil)
              obtain ⟨g1, g2⟩ := hal1
              have hal2 := g1.alloc (T := ⟨W.heap.size + 1, 0, 0, 0⟩) (o := .loop ⟨.ready, none, fn, t, n, ps, a, b, H.next⟩) (by simp) (.loop ⟨W.heap.size + 1, 0, 0, 0⟩ ⟨.ready, none, fn, t, n, ps, a, b, H.next⟩ tm ⟨W.heap.size, 0, 0, 0⟩ (ht.mono g2.le) (Inj.ext_same _ _ _))
              obtain ⟨g3, g4⟩ := hal2
              have g5 := g2.trans g4
              refine rangeCall_sim hok (mark := [{ target := .collected W.heap.size, args := #[] }]) (T := ⟨W.heap.size + 1, 0, 0, 0⟩) g3 (hlaid.mono g5.le) (ht.mono g5.le) (hk.mono g5.le) ?_ .none (hcs.mono (g5.keeps gs)) hnd (Inj.ext_same _ _ _) enterLoop_none h
              exact .cons ⟨.collected H.next ⟨W.heap.size, 0, 0, 0⟩ (g4.le _ _ (Inj.ext_same _ _ _)), .nil⟩ (hd.mono g5.le)
          · cases h
        | inBlock id => exact fin _ _ hk c_inBlock (by cases h; rfl)
        | inScope b => exact fin _ _ hk c_inScope (by cases h; rfl)
        | inLoop b => exact fin _ _ (.cons (.code b) (.cons (.inLoop b) hk)) c_inLoop (by cases h; rfl)
        | inRangeFunc l T hT => cases h
        | beginRound =>
          simp only at h
          split at h
          · rename_i l
            cases hrd with
            | some _ T hT =>
              split at h
              · rename_i q hget
                split at h
                · rename_i hst
                  cases h
                  obtain ⟨r, hr, hst', hpe, hput⟩ := loop_put hH hget hT
                  obtain ⟨p1, p2⟩ := hput .busy q.pending
                  refine ⟨μ, _, cs', _, .one (c_beginRound hr (by rw [hst', hst])), ?_, hlaid, [], gs, .plain fn t n tm k k' ds ds' false kd (some l) (some T.c) ht hk hd (.some l T hT), hcs.mono (p2.keeps gs), hnd⟩
                  have e1 : ({ r with state := LoopState.busy } : Loop) = { r with state := .busy, pending := q.pending } := by rw [← hpe]
                  rw [e1]; exact p1
                · cases h
              · cases h
          · cases h
        | endRangeFunc l T hT =>
          simp only at h
          split at h
          · rename_i q hget
            obtain ⟨r, hr, hst', hpe, hput⟩ := loop_put hH hget hT
            obtain ⟨p1, p2⟩ := hput .exhausted q.pending
            have p1' : HRel base W0 μ (H.put l (.loop { q with state := .exhausted })) { W with heap := W.heap.setIfInBounds T.c (.loop { r with state := .exhausted }) } := by
              have e1 : ({ r with state := LoopState.exhausted } : Loop) = { r with state := .exhausted, pending := q.pending } := by rw [← hpe]
              rw [e1]; exact p1
            split at h
            · cases h
            · rename_i hnb
              have hs : r.state ≠ .busy := by rw [hst']; exact hnb
              have hce := c_endLoop (P := X.P) (fn := fn) (tm := tm) (k := k') (ds := ds') (kd := kd) (rd := rd') (cs := cs' ++ cs0) hr hs
              split at h
              · rename_i hp
                cases h
                have htd : (r.pending.map Item.code).toList ++ k' = k' := by rw [hpe, hp]; rfl
                rw [htd] at hce
                exact ⟨μ, _, cs', _, .one hce, p1', hlaid, [], gs, .plain fn t n tm k k' ds ds' false kd rd rd' ht hk hd hrd, hcs.mono (p2.keeps gs), hnd⟩
              · rename_i j hp
                cases h
                have htd : (r.pending.map Item.code).toList ++ k' = .code j :: k' := by rw [hpe, hp]; rfl
                rw [htd] at hce
                exact ⟨μ, _, cs', _, .one hce, p1', hlaid, [], gs, .plain fn t n tm _ _ ds ds' false kd rd rd' ht (.cons (.code j) hk) hd hrd, hcs.mono (p2.keeps gs), hnd⟩
          · cases h


end
end Go.Ideal
