import Derived.Test.YtbebcbcnibfbhaaEU
/- The engine, twenty-second text: loops over functions; code is sound. -/
namespace Go.Proofs.Ytbebcbcnibfbhaa.Ab
open Go

/-- A block that nobody of the numbered ones is. -/
theorem goes_alloc {K : KS} {bs : List AB} {w : World} (hr : HR K bs w.heap) (o : Obj) : Goes K bs w K bs (w.alloc o) := by
  have hk : ∀ c, c < w.heap.size → (w.heap.push o)[c]? = w.heap[c]? := fun c hc => get_push_lt o hc
  have htr : Tr K bs w.heap K bs (w.heap.push o) :=
    { size := by simp
      keep := fun c hc _ => hk c hc
      imono := fun _ h => h
      inew := fun _ h => .inl h
      img := fun _ h => .inl h
      le := fun b x' _ hx hl => ⟨x', hx, .inr ⟨hl, kin_refl hl, Nat.le_refl _, fun _ => ⟨rfl, rfl⟩⟩⟩
      void := fun b x' _ hx hv => ⟨x', hx, hv⟩
      len := Nat.le_refl _ }
  refine ⟨htr, ⟨hr.inj, ?_, fun c hc => ?_, hr.wr, hr.nwr⟩, rfl, rfl, rfl⟩
  · intro b x hx hl
    obtain ⟨o', ho, hR⟩ := hr.obj b x hx hl
    exact ⟨o', (hk _ (hr.lt b x hx hl)).trans ho, hR.mono (htr.lat hr)⟩
  · have h1 := hr.ilt c hc
    show c < (w.heap.push o).size
    simp; omega
/-- A loop's record turns. -/
theorem goes_loop {K : KS} {bs : List AB} {w : World} (hr : HR K bs w.heap) {b : Nat} {f : FuncId} {t : RG} {p : List Tmp} {as_ body : Code} {st st' : LoopState} {j j' : Option Code} (hb : bs[b]? = some (.loop f t p as_ body st j)) :
    ∃ l : Loop, w.heap[K.β b]? = some (.loop l) ∧ l.state = st ∧ l.pending = j ∧ l.params.toList = p ∧ l.assign = as_ ∧ l.body = body ∧ RegR K bs w.heap t l.tmps ∧
      ∃ K', Goes K bs w K' (bs.set b (.loop f t p as_ body st' j')) (w.putObj (K.β b) (.loop { l with state := st', pending := j' })) ∧ K'.β b = K.β b := by
  obtain ⟨o, ho, l, rfl, h1, h2, h3, h4, h5, h6⟩ := hr.obj b _ hb rfl
  refine ⟨l, ho, h1, h2, h3, h4, h5, h6, ?_⟩
  have hlt := (List.getElem?_eq_some_iff.1 hb).1
  have hβ := hr.lt b _ hb rfl
  have u : Upd K bs w.heap b (K.β b) (K.κ b) (.loop f t p as_ body st' j') (.loop { l with state := st', pending := j' }) (bs.set b (.loop f t p as_ body st' j')) (w.putObj (K.β b) (.loop { l with state := st', pending := j' })).heap :=
    { at_ := by rw [List.getElem?_set_self hlt]
      other := fun c hc => by rw [List.getElem?_set_ne (fun e => hc e.symm)]
      size := by rw [World.putObj_size]; exact Nat.le_refl _
      here := World.putObj_heap_same hβ
      there := fun c _ hc => World.putObj_heap_other hc
      old := .inr (.inr ⟨_, hb, rfl, trivial, Nat.le_refl _, fun _ => ⟨rfl, rfl⟩⟩)
      place := .inr ⟨rfl, _, hb, rfl⟩
      live := rfl
      wrt := rfl
      obj := ⟨_, rfl, rfl, rfl, h3, h4, h5, h6⟩ }
  exact ⟨_, ⟨u.tr hr, u.hr hr, rfl, rfl, rfl⟩, updN_same _ _ _⟩
theorem esc_loop {h : H} (he : EscR h) {b : Nat} {f : FuncId} {t : RG} {p : List Tmp} {as_ body : Code} {st st' : LoopState} {j j' : Option Code} (hb : h.bs[b]? = some (.loop f t p as_ body st j)) :
    EscR { h with bs := h.bs.set b (.loop f t p as_ body st' j') } := by
  intro c x hx
  rw [List.getElem?_set] at hx
  split at hx
  · rename_i hc
    subst hc
    split at hx
    · cases hx
      have h1 := he b _ hb
      exact h1
    · cases hx
  · exact he c x hx
/-- A loop's record that is done with goes. -/
theorem goes_kill {K : KS} {bs : List AB} {w : World} (hr : HR K bs w.heap) {b : Nat} {x : AB} (hb : bs[b]? = some x) (hw : x.wrt = true) (o : Obj) :
    Goes K bs w K (bs.set b .dead) (w.putObj (K.β b) o) := by
  have hlt := (List.getElem?_eq_some_iff.1 hb).1
  have hget : ∀ (c : Nat) (y : AB), (bs.set b AB.dead)[c]? = some y → y.live = true → c ≠ b ∧ bs[c]? = some y := by
    intro c y hy hl
    rw [List.getElem?_set] at hy
    split at hy
    · cases hy; cases hl
    · rename_i hc
      exact ⟨fun e => hc e.symm, hy⟩
  have hne : ∀ (c : Nat) (y : AB), c ≠ b → bs[c]? = some y → y.live = true → K.β c ≠ K.β b := fun c y hc hy hl e => hc (hr.inj c b y x hy hb hl (wrt_live hw) e)
  have htr : Tr K bs w.heap K (bs.set b .dead) (w.putObj (K.β b) o).heap :=
    { size := by rw [World.putObj_size]; exact Nat.le_refl _
      keep := fun c _ hn => World.putObj_heap_other fun e => hn ⟨b, x, hb, hw, e.symm⟩
      imono := fun _ h => h
      inew := fun _ h => .inl h
      img := fun c hc => by
        obtain ⟨d, y, hy, hyw, he⟩ := hc
        exact .inl ⟨d, y, (hget d y hy (wrt_live hyw)).2, hyw, he⟩
      le := fun d y _ hy hl => ⟨y, (hget d y hy hl).2, .inr ⟨hl, kin_refl hl, Nat.le_refl _, fun _ => ⟨rfl, rfl⟩⟩⟩
      void := fun d y _ hy hv => by
        rw [List.getElem?_set] at hy
        split at hy
        · cases hy; cases hv
        · exact ⟨y, hy, hv⟩
      len := by simp }
  refine ⟨htr, ⟨?_, ?_, fun c hc => ?_, ?_, ?_⟩, rfl, rfl, rfl⟩
  · intro c c' y y' hy hy' hl hl'
    exact hr.inj c c' y y' (hget c y hy hl).2 (hget c' y' hy' hl').2 hl hl'
  · intro c y hy hl
    obtain ⟨hc, hy⟩ := hget c y hy hl
    obtain ⟨o', ho, hR⟩ := hr.obj c y hy hl
    exact ⟨o', (World.putObj_heap_other (hne c y hc hy hl)).trans ho, hR.mono (htr.lat hr)⟩
  · rw [World.putObj_size]; exact hr.ilt c hc
  · intro c y hy hyw
    exact hr.wr c y (hget c y hy (wrt_live hyw)).2 hyw
  · intro c cs i hy hi
    exact hr.nwr c cs i (hget c _ hy rfl).2 hi
theorem esc_kill {h : H} (he : EscR h) (b : Nat) : EscR { h with bs := h.bs.set b .dead } := by
  intro c x hx
  rw [List.getElem?_set] at hx
  split at hx
  · split at hx
    · cases hx
      exact .inl (Nat.zero_le _)
    · cases hx
  · exact he c x hx
/-- The blocks from n on go. -/
theorem trim_sound {K0 K : KS} {bs0 : List AB} {w0 w : World} {h : H} {n : Nat} (hn : bs0.length ≤ n) (hg : Goes K0 bs0 w0 K h.bs w) (he : EscR h) :
    Goes K0 bs0 w0 K (h.trim n).bs w ∧ EscR (h.trim n) ∧ (∀ b, b < n → (h.trim n).bs[b]? = h.bs[b]?) := by
  unfold H.trim
  split
  · exact ⟨hg, he, fun _ _ => rfl⟩
  · split
    · rename_i hk
      obtain ⟨h1, h2⟩ := hg.hr.cut he hk
      refine ⟨⟨hg.tr.cut hn, h1, hg.os, hg.tape, hg.output⟩, h2, fun b hb => ?_⟩
      show (h.bs.take n)[b]? = _
      rw [List.getElem?_take, if_pos hb]
    · exact ⟨hg, he, fun _ _ => rfl⟩

section
variable {P : Program}
/-- A loop over a function. -/
theorem range_sound {call : CallF} (hc : CallSound P call) {fid : FuncId} {g : Operand} {ps : Array Tmp} {assign body : Code} :
    CodeGood P none (.rangeFunc g ps assign body) (evRange call fid g ps assign body) := by
  intro s x s' n0 K a w hev hS
  unfold evRange at hev
  split at hev
  · rename_i f xs ys hop
    split at hev
    · rename_i rv h' hcall
      split at hev
      · rename_i f1 t1 p1 as1 b1 st pend hlb
        split at hev
        · cases hev
        · rename_i hst
          split at hev
          · rename_i ax hj
            cases hev
            -- the machine
            have hfv := opnd_rep hS.reg g
            rw [hop] at hfv
            obtain ⟨va, vb, hfe, hxa, hyb⟩ := hfv.inv_fn
            have hsz : n0 ≤ w.heap.size := hS.marks.1
            have g1 := goes_alloc hS.hr (.deferred (some []))
            have L1 := g1.lat hS.hr
            refine wpIn_rangeFunc fun fn _ => ?_
            have hobj : ObjR K s.h.bs (w.alloc (.deferred (some []))).heap 0 (.loop fid s.tmps ps.toList assign body .ready none) (.loop { state := .ready, pending := none, fn := fn, tmps := a.tmps, params := ps, assign := assign, body := body, defers := w.heap.size }) :=
              ⟨_, rfl, rfl, rfl, rfl, rfl, rfl, hS.reg.mono L1⟩
            obtain ⟨K1, g2, hβ1, _⟩ := goes_new g1.hr (.inl rfl) (x := .loop fid s.tmps ps.toList assign body .ready none) rfl hobj
            have happ : appBs s.h.bs s.h.bs.length (.new (.loop fid s.tmps ps.toList assign body .ready none)) = s.h.bs ++ [.loop fid s.tmps ps.toList assign body .ready none] := by
              simp [appBs, H.app]
            rw [happ] at g2
            have hsize : (w.alloc (.deferred (some []))).heap.size = w.heap.size + 1 := World.size_alloc ..
            rw [hsize] at hβ1
            have g12 := g1.trans g2
            have L12 := g12.lat hS.hr
            have hlast : (s.h.bs ++ [AB.loop fid s.tmps ps.toList assign body .ready none])[s.h.bs.length]? = some (.loop fid s.tmps ps.toList assign body .ready none) := by simp
            have hyc : RepV K1 (s.h.bs ++ [.loop fid s.tmps ps.toList assign body .ready none]) ((w.alloc (.deferred (some []))).alloc (.loop { state := .ready, pending := none, fn := fn, tmps := a.tmps, params := ps, assign := assign, body := body, defers := w.heap.size })).heap (.yc s.h.bs.length) (.func (.yield (w.heap.size + 1)) #[] #[]) :=
              .yc ⟨_, hlast, rfl, fun _ => Nat.zero_le _⟩ fun _ _ _ _ _ _ _ _ => hβ1.symm
            have hesc1 : EscR { s.h with bs := s.h.bs ++ [.loop fid s.tmps ps.toList assign body .ready none] } := by
              intro b y hy
              rw [List.getElem?_append] at hy
              split at hy
              · exact hS.esc b y hy
              · rename_i hb
                have hlt := (List.getElem?_eq_some_iff.1 hy).1
                have hbe : b = s.h.bs.length := by simp at hlt; omega
                subst hbe
                simp at hy
                subst hy
                have := hS.reg.top
                exact .inl (by show s.tmps.t.top ≤ _; omega)
            have hM := hc _ _ _ _ _ _ K1 _ _ _ hcall g12.hr hesc1 ((RepV.fn hxa hyb).mono L12) (.cons hyc .nil)
            rcases hM with ⟨f', first, cap, hfn', hcf, hcalls⟩ | ⟨l, fn', tm', as', bo', hy', _⟩
            · injection hfn' with e1 e2 e3
              injection e1 with e1
              subst e1 e2 e3
              refine ⟨w.heap.size + 1, [{ target := .collected w.heap.size, args := #[] }], _, { target := .fn (.func f) vb.toArray, args := va.toArray ++ #[.func (.yield (w.heap.size + 1)) #[] #[]] }, _, f, _, _, run_enterLoop_outer fn a.tmps ps assign body, ?_, fun _ _ => trivial, hcf, fun h => by simp [fence, Fence.wide] at h, ?_⟩
              · unfold resolve
                have hm : Array.map a.eval #[Operand.const (.func (.yield (w.heap.size + 1)) #[] #[])] = #[.func (.yield (w.heap.size + 1)) #[] #[]] := by simp [Act.eval]
                simp only [hfe, Deferred.ofValue, Sem.run_pure, hm]
                rfl
              · have h4 : CallsIn Fence.wide (0 - 1) P f _ _ _ := callsIn_wide.2 hcalls
                refine CallsIn.mono (F := fence none) h4 fun e w2 hd => ?_
                obtain ⟨K2, g3, hesc2, hend⟩ := hd
                cases e with
                | panicked chain => exact hend.elim
                | outgrown => exact hend.elim
                | returned v =>
                  have hbo : born (s.h.bs ++ [AB.loop fid s.tmps ps.toList assign body .ready none]) s.h.bs.length 0 := ⟨_, hlast, rfl, fun _ => Nat.zero_le _⟩
                  obtain ⟨_, _, _, _, _, _, _, _, hβ2⟩ := (g3.lat g12.hr).loop _ hbo _ _ _ _ _ _ _ hlb
                  rw [hβ1] at hβ2
                  obtain ⟨o, ho, l, rfl, hl1, hl2, hl3, hl4, hl5, hl6⟩ := g3.hr.obj _ _ hlb rfl
                  rw [hβ2] at ho
                  have hend := run_endLoop (P := P) ho (by rw [hl1]; exact hst)
                  refine ⟨_, _, hend, ?_⟩
                  have g4 := goes_kill g3.hr hlb rfl (.loop { l with state := .exhausted })
                  rw [hβ2] at g4
                  have gall := (g12.trans g3).trans g4
                  obtain ⟨g5, hesc5, hsame⟩ := trim_sound (h := { h' with bs := h'.bs.set s.h.bs.length .dead }) (n := s.h.bs.length) (Nat.le_refl _) gall (esc_kill hesc2 _)
                  have hreg := (hS.reg.mono (g5.lat hS.hr))
                  have hmk : Marks n0 K1 ((w.alloc (.deferred (some []))).alloc (.loop { state := .ready, pending := none, fn := fn, tmps := a.tmps, params := ps, assign := assign, body := body, defers := w.heap.size })) ([{ target := .collected w.heap.size, args := #[] }] ++ a.defers) := by
                    obtain ⟨h0, Ds, hm1, hm2, hm3⟩ := hS.marks.goes hS.hr g12
                    obtain ⟨_, Ds0, hm10, _, hm30⟩ := hS.marks
                    have hDs : Ds = Ds0 := by
                      rw [hm1] at hm10
                      have hinj := congrArg (List.map fun d : Deferred => match d.target with | .collected r => r | _ => 0) hm10
                      simp [List.map_map] at hinj
                      have : ∀ l : List Nat, List.map ((fun d : Deferred => match d.target with | .collected r => r | _ => 0) ∘ fun D => { target := .collected D, args := #[] }) l = l := by
                        intro l
                        have : ((fun d : Deferred => match d.target with | .collected r => r | _ => 0) ∘ fun D => { target := .collected D, args := #[] }) = id := rfl
                        rw [this, List.map_id]
                      rwa [this, this] at hinj
                    subst hDs
                    refine ⟨h0, w.heap.size :: Ds, by rw [hm1]; rfl, List.nodup_cons.2 ⟨fun hm => ?_, hm2⟩, ?_⟩
                    · have := (Array.getElem?_eq_some_iff.1 (hm30 _ hm).2.1).1
                      omega
                    · intro D hD
                      rcases List.mem_cons.1 hD with rfl | hD
                      · refine ⟨hsz, ?_, fun hI => ?_⟩
                        · show ((w.heap.push _).push _)[w.heap.size]? = _
                          rw [get_push_lt _ (by simp)]
                          exact get_push_last _ _
                        · rcases g12.tr.inew _ hI with h | h | h
                          · have := hS.hr.ilt _ h; omega
                          · rcases g2.tr.inew _ hI with h2 | h2 | h2
                            · have := hS.hr.ilt _ h2; omega
                            · rw [hsize] at h2; omega
                            · obtain ⟨d, y, hy, hyw, he⟩ := h2
                              have := hS.hr.lt d y hy (wrt_live hyw)
                              omega
                          · have := hS.hr.img_lt h; omega
                      · exact hm3 D hD
                  have hmk2 := (hmk.goes g12.hr g3).goes g3.hr g4
                  have hSR : SR n0 K2 { s with h := H.trim { h' with bs := h'.bs.set s.h.bs.length .dead } s.h.bs.length } { a with defers := [{ target := .collected w.heap.size, args := #[] }] ++ a.defers } (w2.putObj (w.heap.size + 1) (.loop { l with state := .exhausted })) :=
                    ⟨g5.hr, hesc5, hreg, hmk2⟩
                  rw [hl2] at g5 hSR ⊢
                  cases pend with
                  | none =>
                    cases hj
                    exact ⟨K2, g5, hSR, trivial⟩
                  | some c =>
                    simp only
                    cases c with
                    | ret => cases hj; exact wpIn_ret ⟨K2, g5, hSR, trivial⟩
                    | exit id => cases hj; exact wpIn_exit ⟨K2, g5, hSR, rfl⟩
                    | goto l => cases hj; exact wpIn_goto ⟨K2, g5, hSR, rfl⟩
                    | _ => cases hj
            · cases hy'
          · cases hev
      · cases hev
    · cases hev
  · cases hev

/-- All code. -/
theorem code_sound {E : Env} (hE : EnvOk E) {call : CallF} (hc : CallSound E.P call) {jmp : JumpF} (hj : JumpSound E.P jmp) {ro : Option Nat} {rd : Bool} (hrd : rd = ro.isSome) (fid : FuncId) :
    ∀ c : Code, CodeGood E.P ro c (evCode E call jmp rd fid c) := by
  intro c
  induction c with
  | skip =>
    intro s x s' n0 K a w h hS
    cases h
    exact wpIn_skip ⟨K, Goes.refl hS.hr, hS, trivial⟩
  | region id ops draw =>
    intro s x s' n0 K a w h hS
    simp only [evCode] at h
    split at h
    · rename_i hd
      subst hd
      exact drawn_sound hE hc h hS
    · rename_i hd
      have hd : draw = false := by simpa using hd
      subst hd
      refine wpIn_region ?_
      rw [List.range_eq_range']
      have := ops_sound hE hc (ro := ro) (ops := ops) hS.hr ops.toList 0 s K a w (fun i => by simp) h (Goes.refl hS.hr) hS
      simpa using this
  | seq c1 c2 ih1 ih2 =>
    intro s x s' n0 K a w h hS
    simp only [evCode] at h
    refine wpIn_seq ?_
    split at h
    · rename_i s1 h1
      refine wpIn_mono (ih1 _ _ _ n0 K a w h1 hS) fun e a' w' hp => ?_
      obtain ⟨K', g1, g2, g3⟩ := hp
      cases g3.normal
      exact wpIn_mono (ih2 _ _ _ n0 K' a' w' h g2) fun e a' w' hp => PostR.trans g1 hp
    · rename_i r hnn
      refine wpIn_mono (ih1 _ _ _ n0 K a w h hS) fun e a' w' hp => ?_
      cases e with
      | normal =>
        obtain ⟨K', h1, h2, h3⟩ := hp
        exact (h3.not_normal fun e => hnn _ (by rw [h, e])).elim
      | _ => exact hp
  | cond v c1 c2 ih1 ih2 =>
    intro s x s' n0 K a w h hS
    simp only [evCode] at h
    have hv := opnd_rep hS.reg v
    split at h
    · rename_i t ht
      rw [ht] at hv
      have hv := hv.inv_bool
      cases t with
      | true =>
        rw [if_pos rfl] at h
        exact wpIn_cond_true hv (ih1 _ _ _ n0 K a w h hS)
      | false =>
        rw [if_neg (by simp)] at h
        exact wpIn_cond_false hv (ih2 _ _ _ n0 K a w h hS)
    · cases h
  | block id c ih =>
    intro s x s' n0 K a w h hS
    simp only [evCode] at h
    refine wpIn_block ?_
    split at h
    · rename_i id' s1 h1
      refine wpIn_mono (ih _ _ _ n0 K a w h1 hS) fun e a' w' hp => ?_
      obtain ⟨K', g1, g2, g3⟩ := hp
      cases g3.exit
      simp only [Exit.inBlock]
      split at h
      · rename_i hid
        cases h
        rw [if_pos hid]
        exact ⟨K', g1, g2, trivial⟩
      · rename_i hid
        cases h
        rw [if_neg hid]
        exact ⟨K', g1, g2, rfl⟩
    · rename_i r hnn
      refine wpIn_mono (ih _ _ _ n0 K a w h hS) fun e a' w' hp => ?_
      cases e with
      | exit id' =>
        exfalso
        obtain ⟨K', h1, h2, h3⟩ := hp
        cases x with
        | exit j => exact hnn _ _ h
        | _ => exact h3
      | _ => exact hp
  | loop c ih =>
    intro s x s' n0 K a w h hS
    simp only [evCode] at h
    exact wpIn_loop_rounds E.fuel (loop_sound ih _ hS.hr E.fuel s K a w h (Goes.refl hS.hr) hS)
  | rangeFunc g ps assign body _ _ =>
    intro s x s' n0 K a w h hS
    simp only [evCode] at h
    cases rd with
    | true => cases h
    | false =>
      cases ro with
      | some l => cases hrd
      | none => exact range_sound hc s x s' n0 K a w h hS
  | exit id =>
    intro s x s' n0 K a w h hS
    cases h
    exact wpIn_exit ⟨K, Goes.refl hS.hr, hS, rfl⟩
  | label l =>
    intro s x s' n0 K a w h hS
    cases h
    exact wpIn_label ⟨K, Goes.refl hS.hr, hS, trivial⟩
  | goto l =>
    intro s x s' n0 K a w h hS
    cases h
    exact wpIn_goto ⟨K, Goes.refl hS.hr, hS, rfl⟩
  | ret =>
    intro s x s' n0 K a w h hS
    cases h
    exact wpIn_ret ⟨K, Goes.refl hS.hr, hS, trivial⟩
  | scope c ih =>
    intro s x s' n0 K a w h hS
    simp only [evCode] at h
    refine wpIn_scope (E.fuel + 1) ?_
    simp only [scopeIn]
    split at h
    · rename_i l s1 h1
      refine wpIn_mono (ih _ _ _ n0 K a w h1 hS) fun e a' w' hp => ?_
      obtain ⟨K', g1, g2, g3⟩ := hp
      cases g3.goto
      exact jumps_sound (fun c => hj ro rd fid c hrd) E.fuel l s1 K' a' w' h g1 g2
    · rename_i r hnn
      refine wpIn_mono (ih _ _ _ n0 K a w h hS) fun e a' w' hp => ?_
      cases e with
      | goto l1 =>
        exfalso
        obtain ⟨K', h1, h2, h3⟩ := hp
        cases x with
        | goto j => exact hnn _ _ h
        | _ => exact h3
      | _ => exact hp
  | refuse m =>
    intro s x s' n0 K a w h hS
    cases h
end
end Go.Proofs.Ytbebcbcnibfbhaa.Ab
