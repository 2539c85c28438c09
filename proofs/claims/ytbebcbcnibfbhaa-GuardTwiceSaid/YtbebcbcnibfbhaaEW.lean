import Derived.Test.YtbebcbcnibfbhaaEV
/- The engine, twenty-third text: calls are sound. -/
namespace Go.Proofs.Ytbebcbcnibfbhaa.Ab
open Go

section
variable {P : Program}
theorem sure_as {a : Value} {t : TypeId} {w : World} {v : Value} {w' : World} (h : (Instr.loadAt t a).run P w = .ok v w') : (do loadVar t (← asAddr a) : Sem Value).run P w = .ok v w' := by
  unfold Instr.loadAt at h
  rw [Sem.run_bind] at h ⊢
  cases a with
  | pointer p =>
    cases p with
    | some x => exact h
    | none => simp [Instr.sureAddr, Result.andThen] at h
  | _ => simp [Instr.sureAddr, Result.andThen] at h
def resM (tmps : Array Value) : ResultVar → Sem Value
  | .tmp t => pure (tmps.getD t undef)
  | .cell a t => do loadVar t (← asAddr (tmps.getD a undef))
theorem res_list {s : ST} {K : KS} {w : World} {tmps : Array Value} (hr : HR K s.h.bs w.heap) (hreg : RegR K s.h.bs w.heap s.tmps tmps) : ∀ (l : List ResultVar) (vs : List AV), resA P s l = some vs →
    ∃ us : List Value, Sem.run P (l.mapM (resM tmps)) w = .ok us w ∧ RepVL K s.h.bs w.heap vs us
  | [], vs, h => by
    cases h
    exact ⟨[], rfl, .nil⟩
  | .tmp t :: l, vs, h => by
    simp only [resA, Option.map_eq_some_iff] at h
    obtain ⟨vs', h1, rfl⟩ := h
    obtain ⟨us, h2, h3⟩ := res_list hr hreg l vs' h1
    refine ⟨tmps.getD t undef :: us, ?_, .cons (hreg.2 t) h3⟩
    rw [List.mapM_cons, Sem.run_bind]
    simp only [resM, Sem.run_pure, Result.andThen_ok, Sem.run_bind, h2]
  | .cell a t :: l, vs, h => by
    simp only [resA] at h
    split at h
    · rename_i v x hm
      simp only [Option.map_eq_some_iff] at h
      obtain ⟨vs', h1, rfl⟩ := h
      obtain ⟨us, h2, h3⟩ := res_list hr hreg l vs' h1
      obtain ⟨u, h4, h5, _⟩ := load_sound (P := P) hr (nid := 0) (hreg.2 a) hm
      refine ⟨u :: us, ?_, .cons h5 h3⟩
      rw [List.mapM_cons, Sem.run_bind]
      have h6 : (resM tmps (.cell a t)).run P w = .ok u w := sure_as h4
      rw [h6]
      simp only [Sem.run_pure, Result.andThen_ok, Sem.run_bind, h2]
    · cases h
theorem results_sound {s : ST} {K : KS} {w : World} {tmps : Array Value} (hr : HR K s.h.bs w.heap) (hreg : RegR K s.h.bs w.heap s.tmps tmps) {fn : Func} {vs : List AV} (h : resA P s fn.results.toList = some vs) :
    ∃ v, (results fn tmps).run P w = .ok v w ∧ RepV K s.h.bs w.heap (asOne vs) v := by
  obtain ⟨us, h1, h2⟩ := res_list hr hreg _ _ h
  have he : results fn tmps = (do let vs ← fn.results.mapM (resM tmps); pure (if h : vs.size = 1 then vs[0] else .tuple vs)) := rfl
  rw [he, Array.mapM_eq_mapM_toList]
  refine ⟨if h : us.toArray.size = 1 then us.toArray[0] else .tuple us.toArray, ?_, ?_⟩
  · simp only [Sem.run_bind, map_eq_pure_bind, h1, Result.andThen_ok, Sem.run_pure]
  · have hl := h2.len
    unfold asOne
    split
    · rename_i v
      cases h2 with
      | cons h0 h2 =>
        cases h2
        simpa using h0
    · rename_i hne
      have : us.toArray.size ≠ 1 := by
        intro e
        have e1 : us.length = 1 := by simpa using e
        cases vs with
        | nil => simp at hl; omega
        | cons v vs =>
          cases vs with
          | nil => exact hne v rfl
          | cons _ _ => simp at hl; omega
      rw [dif_neg this]
      exact .tup h2
end

section
variable {K0 K : KS} {bs0 bs : List AB} {w0 w : World}
/-- The block of a loop's deferred calls is shut. -/
theorem shut_one {D : Nat} (hg : Goes K0 bs0 w0 K bs w) (hD : w0.heap.size ≤ D) (hd : w.heap[D]? = some (.deferred (some []))) (hI : ¬ K.I D) :
    Goes K0 bs0 w0 K bs (w.putObj D (.deferred none)) ∧ Lat K bs w.heap K bs (w.putObj D (.deferred none)).heap := by
  have hk : ∀ c, c ≠ D → (w.putObj D (.deferred none)).heap[c]? = w.heap[c]? := fun c hc => World.putObj_heap_other hc
  have L : Lat K bs w.heap K bs (w.putObj D (.deferred none)).heap :=
    { imono := fun _ h => h
      same := fun c hc => hk c fun e => hI (e ▸ hc)
      born := fun _ _ h => h
      cells := fun b ver _ c' i' hc he => ⟨c', i', hc, he, rfl, rfl, rfl, rfl, rfl⟩
      map := fun b _ es h => ⟨es, h, rfl⟩
      loop := fun b _ f t p a c s j h => ⟨f, t, p, a, c, s, j, h, rfl⟩ }
  refine ⟨⟨⟨?_, fun c hc hn => ?_, hg.tr.imono, hg.tr.inew, hg.tr.img, hg.tr.le, hg.tr.void, hg.tr.len⟩, ⟨hg.hr.inj, ?_, fun c hc => ?_, hg.hr.wr, hg.hr.nwr⟩, hg.os, hg.tape, hg.output⟩, L⟩
  · rw [World.putObj_size]; exact hg.tr.size
  · exact (hk c (by omega)).trans (hg.tr.keep c hc hn)
  · intro b x hx hl
    obtain ⟨o, ho, hR⟩ := hg.hr.obj b x hx hl
    refine ⟨o, (hk _ fun e => ?_).trans ho, hR.mono L⟩
    cases hw : x.wrt with
    | true => exact img_kind hg.hr ⟨b, x, hx, hw, e⟩ hd
    | false =>
      cases x with
      | cells c i => exact hI (e ▸ (hg.hr.nwr b c i hx hw).1)
      | map es => cases hw
      | loop => cases hw
      | dead => cases hl
      | void => cases hl
  · rw [World.putObj_size]; exact hg.hr.ilt c hc
theorem leaves_sound {P : Program} {fn : Func} {tmps : Array Value} {R : Ending → World → Prop} {u : FrameMode} (hu : u ≠ .run) : ∀ (Ds : List Nat) (w : World), Goes K0 bs0 w0 K bs w → Ds.Nodup →
    (∀ D ∈ Ds, w0.heap.size ≤ D ∧ w.heap[D]? = some (.deferred (some [])) ∧ ¬ K.I D) →
    (∀ w', Goes K0 bs0 w0 K bs w' → (∀ a v, RepV K bs w.heap a v → RepV K bs w'.heap a v) → LeavesIn Fence.wide 0 P fn tmps R [] u w') →
    LeavesInM Fence.wide 0 P fn tmps R (Ds.map fun D => { target := .collected D, args := #[] }) u w
  | [], w, hg, _, _, h => h w hg fun _ _ h => h
  | D :: Ds, w, hg, hn, hD, h => by
    obtain ⟨h1, h2, h3⟩ := hD D (List.mem_cons_self ..)
    obtain ⟨g1, L⟩ := shut_one hg h1 h2 h3
    have hn' := List.nodup_cons.1 hn
    refine ⟨hu, .inl ⟨D, _, rfl, run_takeDeferred h2, leaves_sound hu Ds _ g1 hn'.2 (fun D' hD' => ?_) fun w' g' hR => h w' g' fun a v hv => hR a v (hv.mono L)⟩⟩
    obtain ⟨k1, k2, k3⟩ := hD D' (List.mem_cons_of_mem _ hD')
    refine ⟨k1, ?_, k3⟩
    rw [World.putObj_heap_other fun e => hn'.1 (by rw [← e]; exact hD')]
    exact k2

theorem Sealed.goes {K' : KS} {bs' : List AB} (h : Sealed K bs w.heap K' bs') : Goes K bs w K' bs' w := ⟨h.tr, h.hr, rfl, rfl, rfl⟩
/-- A call's end. -/
theorem leave_sound {h0 h : H} {raw : Bool} (hg : Goes K0 h0.bs w0 K h.bs w) (he : EscR h) {v : AV} {u : Value} (hv : RepV K h.bs w.heap v u) :
    ∃ K', Goes K0 h0.bs w0 K' (leaveA raw h0.bs.length v h).2.bs w ∧ EscR (leaveA raw h0.bs.length v h).2 ∧ RepV K' (leaveA raw h0.bs.length v h).2.bs w.heap (leaveA raw h0.bs.length v h).1 u := by
  have key : ∀ (v' : AV) (bs' : List AB) (K' : KS), Goes K h.bs w K' bs' w → EscR { h with bs := bs' } → RepV K' bs' w.heap v' u → ∀ r, (if v'.und h0.bs.length && escOk h0.bs.length h.esc then (v', ({ bs := bs'.take h0.bs.length, esc := escCut h0.bs.length h.esc } : H)) else (v', { h with bs := bs' })) = r →
      ∃ K', Goes K0 h0.bs w0 K' r.2.bs w ∧ EscR r.2 ∧ RepV K' r.2.bs w.heap r.1 u := by
    intro v' bs' K' g1 e1 r1 r hr
    have g2 := hg.trans g1
    split at hr
    · rename_i hc
      subst hr
      simp only [Bool.and_eq_true] at hc
      obtain ⟨h1, h2⟩ := HR.cut (h := { h with bs := bs' }) g1.hr e1 hc.2
      refine ⟨K', ⟨g2.tr.cut (Nat.le_refl _), h1, g2.os, g2.tape, g2.output⟩, h2, ?_⟩
      exact r1.near (fun b hb => by show (bs'.take _)[b]? = _; rw [List.getElem?_take, if_pos hb]) ((und_iff _ _).1 hc.1)
    · subst hr
      exact ⟨K', g2, e1, r1⟩
  unfold leaveA
  cases raw with
  | true =>
    simp only [if_true]
    exact key v h.bs K (Goes.refl hg.hr) he hv _ rfl
  | false =>
    simp only [Bool.false_eq_true, if_false]
    obtain ⟨K', s1, s2⟩ := seal_sound hg.hr v hv
    exact key _ _ K' s1.goes (s1.top.esc he) s2 _ rfl
end

section
variable {E : Env}
theorem fence_none : fence none = Fence.wide := rfl
/-- A function's body. -/
theorem body_sound (hE : EnvOk E) {call : CallF} (hc : CallSound E.P call) {jmp : JumpF} (hj : JumpSound E.P jmp) {raw : Bool} {f : FuncId} {fn : Func} {c : Code} (hf : E.P.funcs[f]? = some fn) (hb : fn.body = some c)
    {args : List AV} {h : H} {r : AR} {h' : H} (hev : evBody E call jmp raw f fn c args h = some (r, h')) {K : KS} {w : World} (hr : HR K h.bs w.heap) (he : EscR h) {vals : List Value} (ha : RepVL K h.bs w.heap args vals) :
    Calls E.P f vals.toArray w (DoneR K h w r h') := by
  refine (callsIn_wide (n := 0)).1 (callsIn_of_wp_marks hf hb trivial ?_)
  unfold evBody at hev
  split at hev
  · rename_i hlen
    have hS : SR w.heap.size K { tmps := (RG.empty fn.ntmps).puts 0 args, h := h } { tmps := vals.toArray ++ Array.replicate (fn.ntmps - vals.toArray.size) undef, defers := [] } w :=
      ⟨hr, he, RegR.start ha hlen, Marks.nil (Nat.le_refl _) K⟩
    rw [← fence_none]
    -- how a body ends well
    have good : ∀ (s : ST) (e : Exit) (a' : Act) (w' : World) (K' : KS), Goes K h.bs w K' s.h.bs w' → SR w.heap.size K' s a' w' → (∀ vs, resA E.P s fn.results.toList = some vs → (let (v, h'') := leaveA raw h.bs.length (asOne vs) s.h; some (AR.ret v, h'')) = some (r, h') →
        LeavesInM Fence.wide 0 E.P fn a'.tmps (DoneR K h w r h') a'.defers .returning w') := by
      intro s e a' w' K' g1 g2 vs hvs hev
      obtain ⟨_, Ds, hm1, hm2, hm3⟩ := g2.marks
      rw [hm1]
      refine leaves_sound (by simp) Ds w' g1 hm2 hm3 fun w'' g3 hR => ?_
      have hreg : RegR K' s.h.bs w''.heap s.tmps a'.tmps := ⟨g2.reg.1, fun i => hR _ _ (g2.reg.2 i)⟩
      obtain ⟨v, h1, h2⟩ := results_sound g3.hr hreg hvs
      refine ⟨v, h1, ?_⟩
      obtain ⟨K'', k1, k2, k3⟩ := leave_sound (raw := raw) (h0 := h) g3 g2.esc h2
      cases hev
      exact ⟨K'', k1, k2, k3⟩
    have post : ∀ x s, evCode E call jmp false f c { tmps := (RG.empty fn.ntmps).puts 0 args, h := h } = some (x, s) → (∀ e a' w', PostR w.heap.size K { tmps := (RG.empty fn.ntmps).puts 0 args, h := h } w x s e a' w' → bodyPostM Fence.wide 0 E.P fn (DoneR K h w r h') e a' w') →
        c.wpIn (fence none) 0 E.P (bodyPostM Fence.wide 0 E.P fn (DoneR K h w r h')) { tmps := vals.toArray ++ Array.replicate (fn.ntmps - vals.toArray.size) undef, defers := [] } w :=
      fun x s hx hp => wpIn_mono (code_sound hE hc hj (ro := none) rfl f c _ x s _ K _ w hx hS) hp
    split at hev
    · rename_i s hx
      split at hev
      · rename_i vs hvs
        refine post _ _ hx fun e a' w' hp => ?_
        obtain ⟨K', g1, g2, g3⟩ := hp
        cases g3.normal
        exact good s .normal a' w' K' g1 g2 vs hvs hev
      · cases hev
    · rename_i s hx
      split at hev
      · rename_i vs hvs
        refine post _ _ hx fun e a' w' hp => ?_
        obtain ⟨K', g1, g2, g3⟩ := hp
        cases g3.ret
        exact good s .ret a' w' K' g1 g2 vs hvs hev
      · cases hev
    · rename_i v s hx
      refine post _ _ hx fun e a' w' hp => ?_
      obtain ⟨K', g1, g2, g3⟩ := hp
      cases e with
      | panic chain =>
        obtain ⟨u, rfl, hu⟩ := g3
        obtain ⟨_, Ds, hm1, hm2, hm3⟩ := g2.marks
        show LeavesInM _ _ _ _ _ _ a'.defers _ _
        rw [hm1]
        refine leaves_sound (by simp) Ds w' g1 hm2 hm3 fun w'' g4 hR => ?_
        obtain ⟨K'', k1, k2, k3⟩ := leave_sound (raw := false) (h0 := h) g4 g2.esc (hR _ _ hu)
        cases hev
        exact ⟨K'', k1, k2, u, rfl, k3⟩
      | _ => exact g3.elim
    · cases hev
  · cases hev

theorem endR_sound {b n : Nat} {st : LoopState} {p : Option Code} (hst : st = if p.isNone then .ready else .done) {K0 K : KS} {h0 h : H} {w0 w : World} (hn : n = h0.bs.length) (hg : Goes K0 h0.bs w0 K h.bs w) (he : EscR h) (hlt : b < n) {r : AR} {h' : H} (hev : endR b n st p h = some (r, h')) {l : Nat} (hl : ∀ f t ps as_ bo st j, h.bs[b]? = some (.loop f t ps as_ bo st j) → l = K.β b) {P : Program} :
    ∃ v w', (Instr.endRound l p).run P w = .ok v w' ∧ DoneR K0 h0 w0 r h' (.returned v) w' := by
  unfold endR at hev
  split at hev
  · rename_i f t ps as_ bo st0 j0 hb
    cases hev
    have e := hl _ _ _ _ _ _ _ hb
    subst e
    obtain ⟨lo, ho, h1, h2, h3, h4, h5, h6, K', g1, hβ⟩ := goes_loop hg.hr (st' := st) (j' := p) hb
    refine ⟨_, _, run_endRound p ho, ?_⟩
    subst hn
    have g2 := hg.trans g1
    rw [hst] at g2
    obtain ⟨g3, g4, _⟩ := trim_sound (h := { h with bs := h.bs.set b (.loop f t ps as_ bo (if p.isNone then .ready else .done) p) }) (n := h0.bs.length) (Nat.le_refl _) g2 (esc_loop he hb)
    refine ⟨K', ?_, ?_, .clean (.bool _)⟩
    · rw [hst]; exact g3
    · rw [hst]; exact g4
  · cases hev
theorem fold_rep {K : KS} {bs : List AB} {hp : Array Obj} : ∀ (l : List (Tmp × AV)) (m : List (Tmp × Value)) (t : RG) (a : Array Value), l.map (·.1) = m.map (·.1) → RepVL K bs hp (l.map (·.2)) (m.map (·.2)) → RegR K bs hp t a →
    RegR K bs hp (l.foldl (fun t p => t.put p.1 p.2) t) (m.foldl (fun a p => a.setIfInBounds p.1 p.2) a)
  | [], [], t, a, _, _, h => h
  | [], _ :: _, _, _, h, _, _ => by simp at h
  | _ :: _, [], _, _, h, _, _ => by simp at h
  | (i, v) :: l, (j, u) :: m, t, a, h1, h2, h => by
    simp only [List.map_cons, List.cons.injEq] at h1
    obtain ⟨rfl, h1⟩ := h1
    simp only [List.map_cons] at h2
    cases h2 with
    | cons h0 h2 => exact fold_rep l m _ _ h1 h2 (h.put h0 i)

/-- A round of a loop over a function. -/
theorem yield_sound (hE : EnvOk E) {call : CallF} (hc : CallSound E.P call) {jmp : JumpF} (hj : JumpSound E.P jmp) {b : Nat} {args : List AV} {h : H} {r : AR} {h' : H} (hev : yieldA E call jmp b args h = some (r, h'))
    {K : KS} {w : World} (hr : HR K h.bs w.heap) (he : EscR h) {vals : List Value} (ha : RepVL K h.bs w.heap args vals) {fval : Value} (hf : RepV K h.bs w.heap (.yc b) fval) :
    MCall E.P fval vals.toArray w (DoneR K h w r h') := by
  unfold yieldA at hev
  split at hev
  · rename_i fid tmps ps assign body p0 hb
    split at hev
    · rename_i hlen
      split at hev
      · rename_i s1 hx1
        split at hev
        · rename_i fid1 tmps1 ps1 assign1 body1 p1 hb1
          obtain ⟨l, rfl, hlx⟩ := hf.inv_yc
          have hl := hlx _ _ _ _ _ _ _ hb
          subst hl
          obtain ⟨o, ho, lo, rfl, h1, h2, h3, h4, h5, h6⟩ := hr.obj b _ hb rfl
          have hval := ha.len
          have hps : ps.length = lo.params.size := by rw [← h3]; simp
          have hblt := (List.getElem?_eq_some_iff.1 hb).1
          refine .inr ⟨K.β b, lo.fn, _, lo.assign, lo.body, rfl, run_yield ho (by simp; omega), roundIn_of_wpIn trivial ?_⟩
          have hfence : Fence.wide.inRound (K.β b) = fence (some (K.β b)) := rfl
          rw [hfence, h4, h5]
          have hreg : RegR K h.bs w.heap ((ps.zip args).foldl (fun t p => t.put p.1 p.2) tmps) ((lo.params.zip vals.toArray).foldl (fun tmps (t, a) => tmps.setIfInBounds t a) lo.tmps) := by
            rw [← Array.foldl_toList]
            have hz : (lo.params.zip vals.toArray).toList = ps.zip vals := by rw [Array.toList_zip, h3]
            rw [hz]
            refine fold_rep _ _ _ _ ?_ ?_ h6
            · rw [List.map_fst_zip (by omega), List.map_fst_zip (by omega)]
            · rw [List.map_snd_zip (by omega), List.map_snd_zip (by omega)]
              exact ha
          have hS : SR w.heap.size K { tmps := (ps.zip args).foldl (fun t p => t.put p.1 p.2) tmps, h := h } { tmps := (lo.params.zip vals.toArray).foldl (fun tmps (t, a) => tmps.setIfInBounds t a) lo.tmps, defers := [] } w :=
            ⟨hr, he, hreg, Marks.nil (Nat.le_refl _) K⟩
          refine wpIn_mono (code_sound hE hc hj (ro := some (K.β b)) rfl fid assign _ _ s1 _ K _ w hx1 hS) fun e a1 w1 hp => ?_
          obtain ⟨K1, g1, g2, g3⟩ := hp
          cases g3.normal
          have hbo : born h.bs b 0 := ⟨_, hb, rfl, fun _ => Nat.zero_le _⟩
          obtain ⟨_, _, _, _, _, _, _, _, hβ1⟩ := (g1.lat hr).loop _ hbo _ _ _ _ _ _ _ hb1
          obtain ⟨lo1, ho1, k1, k2, k3, k4, k5, k6, K2, g4, hβ2⟩ := goes_loop g2.hr (st' := .busy) (j' := p1) hb1
          refine ⟨w1.putObj (K1.β b) (.loop { lo1 with state := .busy, pending := p1 }), ?_, ?_⟩
          · rw [← hβ1]
            have := run_beginRound (P := E.P) ho1 k1
            rw [this, ← k2]
          have hS2 : SR w.heap.size K2 { s1 with h := { s1.h with bs := s1.h.bs.set b (.loop fid1 tmps1 ps1 assign1 body1 .busy p1) } } a1 (w1.putObj (K1.β b) (.loop { lo1 with state := .busy, pending := p1 })) :=
            ⟨g4.hr, esc_loop g2.esc hb1, g2.reg.mono (g4.lat g2.hr), g2.marks.goes g2.hr g4⟩
          have g14 := g1.trans g4
          have fin : ∀ x s2, evCode E call jmp true fid body { s1 with h := { s1.h with bs := s1.h.bs.set b (.loop fid1 tmps1 ps1 assign1 body1 .busy p1) } } = some (x, s2) →
              (∀ e a2 w2 K3, Goes K h.bs w K3 s2.h.bs w2 → EscR s2.h → ExR K3 s2.h.bs w2.heap x e → (∀ f t ps as_ bo st j, s2.h.bs[b]? = some (.loop f t ps as_ bo st j) → K.β b = K3.β b) → roundPost E.P (K.β b) (DoneR K h w r h') e a2 w2) →
              body.wpIn (fence (some (K.β b))) 0 E.P (roundPost E.P (K.β b) (DoneR K h w r h')) a1 (w1.putObj (K1.β b) (.loop { lo1 with state := .busy, pending := p1 })) := by
            intro x s2 hx2 hfin
            refine wpIn_mono (code_sound hE hc hj (ro := some (K.β b)) rfl fid body _ x s2 _ K2 _ _ hx2 hS2) fun e a2 w2 hp => ?_
            obtain ⟨K3, g5, g6, g7⟩ := hp
            refine hfin e a2 w2 K3 (g14.trans g5) g6.esc g7 fun f t ps as_ bo st j hb2 => ?_
            obtain ⟨_, _, _, _, _, _, _, _, hβ3⟩ := ((g14.trans g5).lat hr).loop _ hbo _ _ _ _ _ _ _ hb2
            exact hβ3.symm
          split at hev
          · rename_i s2 hx2
            refine fin _ _ hx2 fun e a2 w2 K3 g5 g6 g7 hl => ?_
            cases g7.normal
            exact endR_sound rfl rfl g5 g6 hblt hev hl
          · rename_i s2 hx2
            refine fin _ _ hx2 fun e a2 w2 K3 g5 g6 g7 hl => ?_
            cases g7.ret
            exact endR_sound rfl rfl g5 g6 hblt hev hl
          · rename_i id s2 hx2
            refine fin _ _ hx2 fun e a2 w2 K3 g5 g6 g7 hl => ?_
            cases g7.exit
            exact endR_sound rfl rfl g5 g6 hblt hev hl
          · rename_i l' s2 hx2
            refine fin _ _ hx2 fun e a2 w2 K3 g5 g6 g7 hl => ?_
            cases g7.goto
            exact endR_sound rfl rfl g5 g6 hblt hev hl
          · cases hev
        · cases hev
      · cases hev
    · cases hev
  · cases hev

/-- What functions are known to hand back. -/
def SumOk (E : Env) : Prop := ∀ (f : FuncId) (args : List AV) (v : AV), E.sum f args = some v → v.clean = true → E.ok f = true →
  ∀ (K : KS) (w : World) (vals : List Value), HR K [] w.heap → RepVL K [] w.heap args vals → Calls E.P f vals.toArray w (DoneR K ⟨[], []⟩ w (.ret v) ⟨[], []⟩)

theorem done_clean {K : KS} {h hx : H} {w : World} {r : AR} (hr : HR K h.bs w.heap) (he : EscR h) {r' : AR} (hrc : (∃ v, r = .ret v ∧ v.clean = true ∧ r' = .ret v) ∨ (∃ v, r = .panic v ∧ v.clean = true ∧ r' = .panic v)) {e : Ending} {w' : World} (hd : DoneR K ⟨[], []⟩ w r hx e w') : DoneR K h w r' h e w' := by
  obtain ⟨K', g1, g2, g3⟩ := hd
  have g4 := clean_goes hr g1
  refine ⟨_, g4, he, ?_⟩
  rcases hrc with ⟨v, rfl, hc, rfl⟩ | ⟨v, rfl, hc, rfl⟩
  · cases e with
    | returned u => exact .clean (g3.toP hc)
    | _ => exact g3.elim
  · cases e with
    | panicked chain =>
      obtain ⟨u, h1, h2⟩ := g3
      exact ⟨u, h1, .clean (h2.toP hc)⟩
    | _ => exact g3.elim
theorem done_trans {K K1 : KS} {h : H} {bs1 : List AB} {w : World} (g : Goes K h.bs w K1 bs1 w) {r : AR} {h' : H} {e : Ending} {w' : World} (hd : DoneR K1 { h with bs := bs1 } w r h' e w') : DoneR K h w r h' e w' := by
  obtain ⟨K', g1, g2, g3⟩ := hd
  exact ⟨K', g.trans g1, g2, g3⟩
/-- A call, one deeper. -/
theorem step_sound (hE : EnvOk E) (hs : SumOk E) {call : CallF} (hc : CallSound E.P call) {jmp : JumpF} (hj : JumpSound E.P jmp) : CallSound E.P (stepCall E call jmp) := by
  intro from_ fv as_ h r h' K w fval vals hev hr he hf ha
  unfold stepCall at hev
  split at hev
  · rename_i f x y
    dsimp only at hev
    obtain ⟨va, vb, rfl, hxa, hyb⟩ := hf.inv_fn
    -- the arguments, sealed
    have main : ∀ (as1 : List AV) (bs1 : List AB) (K1 : KS), Goes K h.bs w K1 bs1 w → EscR { h with bs := bs1 } → RepVL K1 bs1 w.heap as1 vals →
        (if E.ok f then
          match E.P.funcs[f]? with
          | none => none
          | some fn => match fn.body with
            | none => none
            | some c =>
              if cleanL (x ++ as1 ++ y) && !E.raw from_ f then
                match E.sum f (x ++ as1 ++ y) with
                | some v => if v.clean then some (AR.ret v, ({ h with bs := bs1 } : H)) else none
                | none =>
                match evBody E call jmp false f fn c (x ++ as1 ++ y) ⟨[], []⟩ with
                | some (.ret v, _) => if v.clean then some (.ret v, { h with bs := bs1 }) else none
                | some (.panic v, _) => if v.clean then some (.panic v, { h with bs := bs1 }) else none
                | none => none
              else evBody E call jmp (E.raw from_ f) f fn c (x ++ as1 ++ y) { h with bs := bs1 }
        else none) = some (r, h') → MCall E.P (.func (.func f) va.toArray vb.toArray) vals.toArray w (DoneR K h w r h') := by
      intro as1 bs1 K1 g1 e1 ha1 hev
      split at hev
      · rename_i hok
        have hargs : RepVL K1 bs1 w.heap (x ++ as1 ++ y) (va ++ vals ++ vb) := ((RepVL.mono (g1.lat hr) hxa).app ha1).app (RepVL.mono (g1.lat hr) hyb)
        have hve : va.toArray ++ vals.toArray ++ vb.toArray = (va ++ vals ++ vb).toArray := by simp
        refine .inl ⟨f, va.toArray, vb.toArray, rfl, hE.ok f hok _ _, ?_⟩
        rw [hve]
        split at hev
        · cases hev
        · rename_i fn hfn
          split at hev
          · cases hev
          · rename_i c hbody
            split at hev
            · rename_i hcl
              simp only [Bool.and_eq_true] at hcl
              have hargs0 : RepVL K1 [] w.heap (x ++ as1 ++ y) (va ++ vals ++ vb) := .of_clean (hargs.toP hcl.1)
              split at hev
              · rename_i v hsum
                split at hev
                · rename_i hv
                  cases hev
                  refine (hs f _ v hsum hv hok K1 w _ (hr_nil g1.hr) hargs0).mono fun e w' hd => ?_
                  exact done_trans g1 (done_clean g1.hr e1 (.inl ⟨v, rfl, hv, rfl⟩) hd)
                · cases hev
              · split at hev
                · rename_i v hx hb
                  split at hev
                  · rename_i hv
                    cases hev
                    refine (body_sound hE hc hj hfn hbody hb (hr_nil g1.hr) esc_nil hargs0).mono fun e w' hd => ?_
                    exact done_trans g1 (done_clean g1.hr e1 (.inl ⟨v, rfl, hv, rfl⟩) hd)
                  · cases hev
                · rename_i v hx hb
                  split at hev
                  · rename_i hv
                    cases hev
                    refine (body_sound hE hc hj hfn hbody hb (hr_nil g1.hr) esc_nil hargs0).mono fun e w' hd => ?_
                    exact done_trans g1 (done_clean g1.hr e1 (.inr ⟨v, rfl, hv, rfl⟩) hd)
                  · cases hev
                · cases hev
            · exact (body_sound hE hc hj hfn hbody hev g1.hr e1 hargs).mono fun e w' hd => done_trans g1 hd
      · cases hev
    cases hraw : E.raw from_ f with
    | true =>
      rw [hraw] at hev main
      simp only [if_true] at hev
      exact main as_ h.bs K (Goes.refl hr) he ha hev
    | false =>
      rw [hraw] at hev main
      simp only [Bool.false_eq_true, if_false] at hev
      obtain ⟨K1, s1, s2⟩ := argsA_sound hr as_ ha
      exact main _ _ K1 s1.goes (s1.top.esc he) s2 hev
  · rename_i b
    exact yield_sound hE hc hj hev hr he ha hf
  · cases hev

theorem none_sound (P : Program) : CallSound P (fun _ _ _ _ => none) := by
  intro from_ fv as_ h r h' K w fval vals hev
  cases hev
theorem all_sound (hE : EnvOk E) (hs : SumOk E) : ∀ n, CallSound E.P (evAll E n).1 ∧ JumpSound E.P (evAll E n).2
  | 0 => ⟨none_sound _, fun _ _ _ _ _ _ _ _ _ _ _ _ h => by cases h⟩
  | n + 1 => by
    obtain ⟨h1, h2⟩ := all_sound hE hs n
    exact ⟨step_sound hE hs h1 h2, fun ro rd fid c hrd => code_sound hE h1 h2 hrd fid c⟩
/-- THE ENGINE: what the abstract machine says of a call, the machine does. -/
theorem evCall_sound (hE : EnvOk E) (hs : SumOk E) (n : Nat) : CallSound E.P (evCall E n) := (all_sound hE hs n).1
end
end Go.Proofs.Ytbebcbcnibfbhaa.Ab
