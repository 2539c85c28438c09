import Derived.Test.YtnkeijebkpjdgaaMLookReads8
import Derived.LoopNIn
import Derived.Test.YtnkeijebkpjdgaaMLookReads2
set_option linter.unusedVariables false
set_option linter.unusedSimpArgs false
/- The engine, twenty-first text: code is sound: what is next, branches, loops, jumps. -/
namespace Go.Proofs.Ytnkeijebkpjdgaa.Ab
open Go

/-- What the machine does where the abstract one runs some code. -/
def CodeGood (P : Program) (ro : Option Nat) (c : Code) (f : ST → Option (AX × ST)) : Prop :=
  ∀ (s : ST) (x : AX) (s' : ST) (n0 : Nat) (K : KS) (a : Act) (w : World), f s = some (x, s') → SR n0 K s a w → c.wpIn (fence ro) 0 P (PostR n0 K s w x s') a w
def JumpSound (P : Program) (jmp : JumpF) : Prop := ∀ (ro : Option Nat) (rd : Bool) (fid : FuncId) (c : Code), rd = ro.isSome → CodeGood P ro c (jmp rd fid c)

section
variable {n0 : Nat} {K K1 : KS} {s s1 s' : ST} {w w1 : World} {x : AX}
theorem PostR.trans (hg : Goes K s.h.bs w K1 s1.h.bs w1) {e : Exit} {a' : Act} {w' : World} (h : PostR n0 K1 s1 w1 x s' e a' w') : PostR n0 K s w x s' e a' w' := by
  obtain ⟨K', h1, h2, h3⟩ := h
  exact ⟨K', hg.trans h1, h2, h3⟩
theorem ExR.normal {bs : List AB} {hp : Array Obj} {e : Exit} (h : ExR K bs hp .normal e) : e = .normal := by cases e <;> first | rfl | exact h.elim
theorem ExR.exit {bs : List AB} {hp : Array Obj} {i : Nat} {e : Exit} (h : ExR K bs hp (.exit i) e) : e = .exit i := by
  cases e <;> first | exact h.elim | skip
  have : i = _ := h
  rw [this]
theorem ExR.goto {bs : List AB} {hp : Array Obj} {i : Nat} {e : Exit} (h : ExR K bs hp (.goto i) e) : e = .goto i := by
  cases e <;> first | exact h.elim | skip
  have : i = _ := h
  rw [this]
theorem ExR.ret {bs : List AB} {hp : Array Obj} {e : Exit} (h : ExR K bs hp .ret e) : e = .ret := by cases e <;> first | rfl | exact h.elim
theorem ExR.not_normal {bs : List AB} {hp : Array Obj} (hx : ∀ (_ : x = .normal), False) (h : ExR K bs hp x .normal) : False := by
  cases x <;> first | exact h.elim | exact hx rfl
end

/-- The labels of a scope: the code goes on behind a label, so often. -/
def scopeIn (F : Fence) (n : Nat) (P : Program) (body : Code) (Q : Exit → Act → World → Prop) : Nat → Code → Act → World → Prop
  | 0, _, _, _ => False
  | m + 1, c, a, w => c.wpIn F n P (fun e a' w' => match e with
      | .goto l => match findLabel body l with
        | none => Q (.goto l) a' w'
        | some rest => scopeIn F n P body Q m rest a' w'
      | e => Q e a' w') a w
theorem stepR_scope {P : Program} {b : Frame} {a : Act} {k : List Item} {cs : List Frame} {w : World} {body : Code} :
    step P (lone (b.atR a (.code (.scope body) :: k)) cs w) = .next (lone (b.atR a (.code body :: .inScope body :: k)) cs w) :=
  step_lone_go (by simp [stepG, stepG.exec, Frame.atR])
theorem stepR_inScope {P : Program} {b : Frame} {a : Act} {k : List Item} {cs : List Frame} {w : World} {body : Code} :
    step P (lone (b.atR a (.inScope body :: k)) cs w) = .next (lone (b.atR a k) cs w) :=
  step_lone_go (by simp [stepG, stepG.exec, Frame.atR])
theorem wpIn_scope {F : Fence} {n : Nat} {P : Program} {body : Code} {Q : Exit → Act → World → Prop} {a : Act} {w : World} (m : Nat) (h : scopeIn F n P body Q m body a w) : (Code.scope body).wpIn F n P Q a w := by
  intro b k cs hro hb hr
  have key : ∀ m c a w, scopeIn F n P body Q m c a w →
      ∃ e a' w', Q e a' w' ∧ ArrivesIn (Machine.fenced P F) P (lone (b.atR a (.code c :: .inScope body :: k)) cs w) b k cs e a' w' := by
    intro m
    induction m with
    | zero => intro c a w h; exact h.elim
    | succ m ih =>
      intro c a w h
      obtain ⟨e, a₁, w₁, hq, harr⟩ := h b (.inScope body :: k) cs hro hb hr
      cases e with
      | normal => exact ⟨.normal, a₁, w₁, hq, StepsIn.trans harr (.one (fenced_calm hb hr rfl) stepR_inScope)⟩
      | exit id => exact ⟨.exit id, a₁, w₁, hq, harr⟩
      | goto l =>
        simp only at hq
        cases hf : findLabel body l with
        | none =>
          rw [hf] at hq
          have hx : gotoIn l (.inScope body :: k) = gotoIn l k := by simp [gotoIn, hf]
          exact ⟨.goto l, a₁, w₁, hq, fun k' hk => harr.1 k' (by rw [hx]; exact hk), fun hr' hk => harr.2 hr' (by rw [hx]; exact hk)⟩
        | some rest =>
          rw [hf] at hq
          have hx : gotoIn l (.inScope body :: k) = some (.code rest :: .inScope body :: k) := by simp [gotoIn, hf]
          obtain ⟨e₂, a₂, w₂, hq₂, harr₂⟩ := ih rest a₁ w₁ hq
          exact ⟨e₂, a₂, w₂, hq₂, .of_steps (harr.1 _ hx) harr₂⟩
      | ret => exact ⟨.ret, a₁, w₁, hq, harr⟩
      | panic ch => exact ⟨.panic ch, a₁, w₁, hq, harr⟩
      | outgrown => exact ⟨.outgrown, a₁, w₁, hq, harr⟩
  obtain ⟨e, a', w', hq, harr⟩ := key m body a w h
  exact ⟨e, a', w', hq, .of_steps (.one (fenced_calm hb hr rfl) stepR_scope) harr⟩

section
variable {n0 : Nat} {K0 K : KS} {bs0 : List AB} {w0 w : World} {s : ST} {a : Act}
theorem RegR.keep {bs : List AB} {hp : Array Obj} {r : RG} {v : Array Value} (h : RegR K bs hp r v) (ks : List Nat) : RegR K bs hp (r.keep ks) v :=
  h.weak (RG.keep_n r ks) fun j => (RG.keep_get r ks j).imp id fun h => h.1
/-- What is forgotten at a loop's head. -/
theorem norm_sound (ks : Option (List Nat)) {n : Nat} (hn : bs0.length ≤ n) (hg : Goes K0 bs0 w0 K s.h.bs w) (hS : SR n0 K s a w) :
    Goes K0 bs0 w0 K (s.norm ks n).h.bs w ∧ SR n0 K (s.norm ks n) a w := by
  unfold ST.norm
  split
  · exact ⟨hg, hS⟩
  · rename_i ks
    have plain : Goes K0 bs0 w0 K ({ s with tmps := s.tmps.keep ks } : ST).h.bs w ∧ SR n0 K { s with tmps := s.tmps.keep ks } a w :=
      ⟨hg, hS.hr, hS.esc, hS.reg.keep ks, hS.marks⟩
    split
    · exact plain
    · split
      · rename_i hk
        obtain ⟨h1, h2⟩ := hS.hr.cut hS.esc hk
        refine ⟨⟨hg.tr.cut (by omega), h1, hg.os, hg.tape, hg.output⟩, h1, h2, ?_, hS.marks⟩
        have hb : ∀ b, b < max n (s.tmps.topOf ks) → (s.h.bs.take (max n (s.tmps.topOf ks)))[b]? = s.h.bs[b]? := fun b hb => by rw [List.getElem?_take, if_pos hb]
        have hr := hS.reg.keep ks
        refine ⟨hr.1, fun j => ?_⟩
        rcases RG.keep_get s.tmps ks j with h | ⟨h, ht⟩
        · rw [h]; exact .ofHole _
        · exact (hr.2 j).near hb (by rw [h]; omega)
      · exact plain
end

section
variable {P : Program} {ro : Option Nat}
theorem loop_sound {b : Code} {f : ST → Option (AX × ST)} (hf : CodeGood P ro b f) (ks : Option (List Nat)) {n0 : Nat} {K0 : KS} {s0 : ST} {w0 : World} {x : AX} {s' : ST} (hr0 : HR K0 s0.h.bs w0.heap) :
    ∀ (m : Nat) (s : ST) (K : KS) (a : Act) (w : World), evLoop f (ST.norm ks s0.h.bs.length) m s = some (x, s') → Goes K0 s0.h.bs w0 K s.h.bs w → SR n0 K s a w →
      Code.roundsIn (fence ro) 0 P b (PostR n0 K0 s0 w0 x s') m a w
  | 0, s, K, a, w, h, _, _ => by simp [evLoop] at h
  | m + 1, s, K, a, w, h, hg, hS => by
    rw [roundsIn_succ]
    obtain ⟨hg1, hS1⟩ := norm_sound ks (Nat.le_refl _) hg hS
    simp only [evLoop] at h
    split at h
    · rename_i s1 hf1
      refine wpIn_mono (hf _ _ _ n0 K a w hf1 hS1) fun e a' w' hp => ?_
      obtain ⟨K', h1, h2, h3⟩ := hp
      cases h3.normal
      exact loop_sound hf ks hr0 m s1 K' a' w' h (hg1.trans h1) h2
    · rename_i r hnn
      refine wpIn_mono (hf _ _ _ n0 K a w h hS1) fun e a' w' hp => ?_
      have hp' := PostR.trans hg1 hp
      cases e with
      | normal =>
        obtain ⟨K', h1, h2, h3⟩ := hp
        exact (h3.not_normal fun e => hnn _ (by rw [h, e])).elim
      | _ => exact hp'
theorem jumps_sound {jmp : Code → ST → Option (AX × ST)} (hj : ∀ c, CodeGood P ro c (jmp c)) {body : Code} {n0 : Nat} {K0 : KS} {s0 : ST} {w0 : World} {x : AX} {s' : ST} :
    ∀ (m : Nat) (l : Nat) (s : ST) (K : KS) (a : Act) (w : World), evJumps jmp body m l s = some (x, s') → Goes K0 s0.h.bs w0 K s.h.bs w → SR n0 K s a w →
      match findLabel body l with
      | none => PostR n0 K0 s0 w0 x s' (.goto l) a w
      | some rest => scopeIn (fence ro) 0 P body (PostR n0 K0 s0 w0 x s') m rest a w
  | 0, l, s, K, a, w, h, _, _ => by simp [evJumps] at h
  | m + 1, l, s, K, a, w, h, hg, hS => by
    simp only [evJumps] at h
    split at h
    · rename_i hfl
      cases h
      simp only [hfl]
      exact ⟨K, hg, hS, rfl⟩
    · rename_i rest hfl
      simp only [hfl, scopeIn]
      split at h
      · rename_i l' s1 hj1
        refine wpIn_mono (hj rest _ _ _ n0 K a w hj1 hS) fun e a' w' hp => ?_
        obtain ⟨K', h1, h2, h3⟩ := hp
        cases h3.goto
        exact jumps_sound hj m l' s1 K' a' w' h (hg.trans h1) h2
      · rename_i r hnn
        refine wpIn_mono (hj rest _ _ _ n0 K a w h hS) fun e a' w' hp => ?_
        have hp' := PostR.trans hg hp
        cases e with
        | goto l1 =>
          obtain ⟨K', h1, h2, h3⟩ := hp
          exfalso
          cases x with
          | goto l2 => exact hnn l2 s' h
          | _ => exact h3
        | _ => exact hp'
end
end Go.Proofs.Ytnkeijebkpjdgaa.Ab
/- The engine, twenty-second text: loops over functions; code is sound. -/
namespace Go.Proofs.Ytnkeijebkpjdgaa.Ab
open Go

/-- A block that nobody of the numbered ones is. -/
theorem goes_alloc {K : KS} {bs : List AB} {w : World} (hr : HR K bs w.heap) (o : Obj) : Goes K bs w K bs (w.alloc o) := by
  have hk : ∀ c, c < w.heap.size → (w.heap.push o)[c]? = w.heap[c]? := fun c hc => get_push_lt o hc
  have htr : Tr K bs w.heap K bs (w.heap.push o) :=
    { size := by simp
      keep := fun c hc _ => hk c hc
      imono := fun _ h => h
      inew := fun _ h => .inl h
      img := fun _ h => .inl h
      le := fun b x' _ hx hl => ⟨x', hx, .inr ⟨hl, kin_refl hl, Nat.le_refl _, fun _ => ⟨rfl, rfl⟩⟩⟩
      void := fun b x' _ hx hv => ⟨x', hx, hv⟩
      len := Nat.le_refl _ }
  refine ⟨htr, ⟨hr.inj, ?_, fun c hc => ?_, hr.wr, hr.nwr⟩, rfl, rfl, rfl⟩
  · intro b x hx hl
    obtain ⟨o', ho, hR⟩ := hr.obj b x hx hl
    exact ⟨o', (hk _ (hr.lt b x hx hl)).trans ho, hR.mono (htr.lat hr)⟩
  · have h1 := hr.ilt c hc
    show c < (w.heap.push o).size
    simp; omega
/-- A loop's record turns. -/
theorem goes_loop {K : KS} {bs : List AB} {w : World} (hr : HR K bs w.heap) {b : Nat} {f : FuncId} {t : RG} {p : List Tmp} {as_ body : Code} {st st' : LoopState} {j j' : Option Code} (hb : bs[b]? = some (.loop f t p as_ body st j)) :
    ∃ l : Loop, w.heap[K.β b]? = some (.loop l) ∧ l.state = st ∧ l.pending = j ∧ l.params.toList = p ∧ l.assign = as_ ∧ l.body = body ∧ RegR K bs w.heap t l.tmps ∧
      ∃ K', Goes K bs w K' (bs.set b (.loop f t p as_ body st' j')) (w.putObj (K.β b) (.loop { l with state := st', pending := j' })) ∧ K'.β b = K.β b := by
  obtain ⟨o, ho, l, rfl, h1, h2, h3, h4, h5, h6⟩ := hr.obj b _ hb rfl
  refine ⟨l, ho, h1, h2, h3, h4, h5, h6, ?_⟩
  have hlt := (List.getElem?_eq_some_iff.1 hb).1
  have hβ := hr.lt b _ hb rfl
  have u : Upd K bs w.heap b (K.β b) (K.κ b) (.loop f t p as_ body st' j') (.loop { l with state := st', pending := j' }) (bs.set b (.loop f t p as_ body st' j')) (w.putObj (K.β b) (.loop { l with state := st', pending := j' })).heap :=
    { at_ := by rw [List.getElem?_set_self hlt]
      other := fun c hc => by rw [List.getElem?_set_ne (fun e => hc e.symm)]
      size := by rw [World.putObj_size]; exact Nat.le_refl _
      here := World.putObj_heap_same hβ
      there := fun c _ hc => World.putObj_heap_other hc
      old := .inr (.inr ⟨_, hb, rfl, trivial, Nat.le_refl _, fun _ => ⟨rfl, rfl⟩⟩)
      place := .inr ⟨rfl, _, hb, rfl⟩
      live := rfl
      wrt := rfl
      obj := ⟨_, rfl, rfl, rfl, h3, h4, h5, h6⟩ }
  exact ⟨_, ⟨u.tr hr, u.hr hr, rfl, rfl, rfl⟩, updN_same _ _ _⟩
theorem esc_loop {h : H} (he : EscR h) {b : Nat} {f : FuncId} {t : RG} {p : List Tmp} {as_ body : Code} {st st' : LoopState} {j j' : Option Code} (hb : h.bs[b]? = some (.loop f t p as_ body st j)) :
    EscR { h with bs := h.bs.set b (.loop f t p as_ body st' j') } := by
  intro c x hx
  rw [List.getElem?_set] at hx
  split at hx
  · rename_i hc
    subst hc
    split at hx
    · cases hx
      have h1 := he b _ hb
      exact h1
    · cases hx
  · exact he c x hx
/-- A loop's record that is done with goes. -/
theorem goes_kill {K : KS} {bs : List AB} {w : World} (hr : HR K bs w.heap) {b : Nat} {x : AB} (hb : bs[b]? = some x) (hw : x.wrt = true) (o : Obj) :
    Goes K bs w K (bs.set b .dead) (w.putObj (K.β b) o) := by
  have hlt := (List.getElem?_eq_some_iff.1 hb).1
  have hget : ∀ (c : Nat) (y : AB), (bs.set b AB.dead)[c]? = some y → y.live = true → c ≠ b ∧ bs[c]? = some y := by
    intro c y hy hl
    rw [List.getElem?_set] at hy
    split at hy
    · cases hy; cases hl
    · rename_i hc
      exact ⟨fun e => hc e.symm, hy⟩
  have hne : ∀ (c : Nat) (y : AB), c ≠ b → bs[c]? = some y → y.live = true → K.β c ≠ K.β b := fun c y hc hy hl e => hc (hr.inj c b y x hy hb hl (wrt_live hw) e)
  have htr : Tr K bs w.heap K (bs.set b .dead) (w.putObj (K.β b) o).heap :=
    { size := by rw [World.putObj_size]; exact Nat.le_refl _
      keep := fun c _ hn => World.putObj_heap_other fun e => hn ⟨b, x, hb, hw, e.symm⟩
      imono := fun _ h => h
      inew := fun _ h => .inl h
      img := fun c hc => by
        obtain ⟨d, y, hy, hyw, he⟩ := hc
        exact .inl ⟨d, y, (hget d y hy (wrt_live hyw)).2, hyw, he⟩
      le := fun d y _ hy hl => ⟨y, (hget d y hy hl).2, .inr ⟨hl, kin_refl hl, Nat.le_refl _, fun _ => ⟨rfl, rfl⟩⟩⟩
      void := fun d y _ hy hv => by
        rw [List.getElem?_set] at hy
        split at hy
        · cases hy; cases hv
        · exact ⟨y, hy, hv⟩
      len := by simp }
  refine ⟨htr, ⟨?_, ?_, fun c hc => ?_, ?_, ?_⟩, rfl, rfl, rfl⟩
  · intro c c' y y' hy hy' hl hl'
    exact hr.inj c c' y y' (hget c y hy hl).2 (hget c' y' hy' hl').2 hl hl'
  · intro c y hy hl
    obtain ⟨hc, hy⟩ := hget c y hy hl
    obtain ⟨o', ho, hR⟩ := hr.obj c y hy hl
    exact ⟨o', (World.putObj_heap_other (hne c y hc hy hl)).trans ho, hR.mono (htr.lat hr)⟩
  · rw [World.putObj_size]; exact hr.ilt c hc
  · intro c y hy hyw
    exact hr.wr c y (hget c y hy (wrt_live hyw)).2 hyw
  · intro c cs i hy hi
    exact hr.nwr c cs i (hget c _ hy rfl).2 hi
theorem esc_kill {h : H} (he : EscR h) (b : Nat) : EscR { h with bs := h.bs.set b .dead } := by
  intro c x hx
  rw [List.getElem?_set] at hx
  split at hx
  · split at hx
    · cases hx
      exact .inl (Nat.zero_le _)
    · cases hx
  · exact he c x hx
/-- The blocks from n on go. -/
theorem trim_sound {K0 K : KS} {bs0 : List AB} {w0 w : World} {h : H} {n : Nat} (hn : bs0.length ≤ n) (hg : Goes K0 bs0 w0 K h.bs w) (he : EscR h) :
    Goes K0 bs0 w0 K (h.trim n).bs w ∧ EscR (h.trim n) ∧ (∀ b, b < n → (h.trim n).bs[b]? = h.bs[b]?) := by
  unfold H.trim
  split
  · exact ⟨hg, he, fun _ _ => rfl⟩
  · split
    · rename_i hk
      obtain ⟨h1, h2⟩ := hg.hr.cut he hk
      refine ⟨⟨hg.tr.cut hn, h1, hg.os, hg.tape, hg.output⟩, h2, fun b hb => ?_⟩
      show (h.bs.take n)[b]? = _
      rw [List.getElem?_take, if_pos hb]
    · exact ⟨hg, he, fun _ _ => rfl⟩

section
variable {P : Program}
/-- A loop over a function. -/
theorem range_sound {call : CallF} (hc : CallSound P call) {fid : FuncId} {g : Operand} {ps : Array Tmp} {assign body : Code} :
    CodeGood P none (.rangeFunc g ps assign body) (evRange call fid g ps assign body) := by
  intro s x s' n0 K a w hev hS
  unfold evRange at hev
  split at hev
  · rename_i f xs ys hop
    split at hev
    · rename_i rv h' hcall
      split at hev
      · rename_i f1 t1 p1 as1 b1 st pend hlb
        split at hev
        · cases hev
        · rename_i hst
          split at hev
          · rename_i ax hj
            cases hev
            -- the machine
            have hfv := opnd_rep hS.reg g
            rw [hop] at hfv
            obtain ⟨va, vb, hfe, hxa, hyb⟩ := hfv.inv_fn
            have hsz : n0 ≤ w.heap.size := hS.marks.1
            have g1 := goes_alloc hS.hr (.deferred (some []))
            have L1 := g1.lat hS.hr
            refine wpIn_rangeFunc fun fn _ => ?_
            have hobj : ObjR K s.h.bs (w.alloc (.deferred (some []))).heap 0 (.loop fid s.tmps ps.toList assign body .ready none) (.loop { state := .ready, pending := none, fn := fn, tmps := a.tmps, params := ps, assign := assign, body := body, defers := w.heap.size }) :=
              ⟨_, rfl, rfl, rfl, rfl, rfl, rfl, hS.reg.mono L1⟩
            obtain ⟨K1, g2, hβ1, _⟩ := goes_new g1.hr (.inl rfl) (x := .loop fid s.tmps ps.toList assign body .ready none) rfl hobj
            have happ : appBs s.h.bs s.h.bs.length (.new (.loop fid s.tmps ps.toList assign body .ready none)) = s.h.bs ++ [.loop fid s.tmps ps.toList assign body .ready none] := by
              simp [appBs, H.app]
            rw [happ] at g2
            have hsize : (w.alloc (.deferred (some []))).heap.size = w.heap.size + 1 := World.size_alloc ..
            rw [hsize] at hβ1
            have g12 := g1.trans g2
            have L12 := g12.lat hS.hr
            have hlast : (s.h.bs ++ [AB.loop fid s.tmps ps.toList assign body .ready none])[s.h.bs.length]? = some (.loop fid s.tmps ps.toList assign body .ready none) := by simp
            have hyc : RepV K1 (s.h.bs ++ [.loop fid s.tmps ps.toList assign body .ready none]) ((w.alloc (.deferred (some []))).alloc (.loop { state := .ready, pending := none, fn := fn, tmps := a.tmps, params := ps, assign := assign, body := body, defers := w.heap.size })).heap (.yc s.h.bs.length) (.func (.yield (w.heap.size + 1)) #[] #[]) :=
              .yc ⟨_, hlast, rfl, fun _ => Nat.zero_le _⟩ fun _ _ _ _ _ _ _ _ => hβ1.symm
            have hesc1 : EscR { s.h with bs := s.h.bs ++ [.loop fid s.tmps ps.toList assign body .ready none] } := by
              intro b y hy
              rw [List.getElem?_append] at hy
              split at hy
              · exact hS.esc b y hy
              · rename_i hb
                have hlt := (List.getElem?_eq_some_iff.1 hy).1
                have hbe : b = s.h.bs.length := by simp at hlt; omega
                subst hbe
                simp at hy
                subst hy
                have := hS.reg.top
                exact .inl (by show s.tmps.t.top ≤ _; omega)
            have hM := hc _ _ _ _ _ _ K1 _ _ _ hcall g12.hr hesc1 ((RepV.fn hxa hyb).mono L12) (.cons hyc .nil)
            rcases hM with ⟨f', first, cap, hfn', hcf, hcalls⟩ | ⟨l, fn', tm', as', bo', hy', _⟩
            · injection hfn' with e1 e2 e3
              injection e1 with e1
              subst e1 e2 e3
              refine ⟨w.heap.size + 1, [{ target := .collected w.heap.size, args := #[] }], _, { target := .fn (.func f) vb.toArray, args := va.toArray ++ #[.func (.yield (w.heap.size + 1)) #[] #[]] }, _, f, _, _, run_enterLoop_outer fn a.tmps ps assign body, ?_, fun _ _ => trivial, hcf, fun h => by simp [fence, Fence.wide] at h, ?_⟩
              · unfold resolve
                have hm : Array.map a.eval #[Operand.const (.func (.yield (w.heap.size + 1)) #[] #[])] = #[.func (.yield (w.heap.size + 1)) #[] #[]] := by simp [Act.eval]
                simp only [hfe, Deferred.ofValue, Sem.run_pure, hm]
                rfl
              · have h4 : CallsIn Fence.wide (0 - 1) P f _ _ _ := callsIn_wide.2 hcalls
                refine CallsIn.mono (F := fence none) h4 fun e w2 hd => ?_
                obtain ⟨K2, g3, hesc2, hend⟩ := hd
                cases e with
                | panicked chain => exact hend.elim
                | outgrown => exact hend.elim
                | returned v =>
                  have hbo : born (s.h.bs ++ [AB.loop fid s.tmps ps.toList assign body .ready none]) s.h.bs.length 0 := ⟨_, hlast, rfl, fun _ => Nat.zero_le _⟩
                  obtain ⟨_, _, _, _, _, _, _, _, hβ2⟩ := (g3.lat g12.hr).loop _ hbo _ _ _ _ _ _ _ hlb
                  rw [hβ1] at hβ2
                  obtain ⟨o, ho, l, rfl, hl1, hl2, hl3, hl4, hl5, hl6⟩ := g3.hr.obj _ _ hlb rfl
                  rw [hβ2] at ho
                  have hend := run_endLoop (P := P) ho (by rw [hl1]; exact hst)
                  refine ⟨_, _, hend, ?_⟩
                  have g4 := goes_kill g3.hr hlb rfl (.loop { l with state := .exhausted })
                  rw [hβ2] at g4
                  have gall := (g12.trans g3).trans g4
                  obtain ⟨g5, hesc5, hsame⟩ := trim_sound (h := { h' with bs := h'.bs.set s.h.bs.length .dead }) (n := s.h.bs.length) (Nat.le_refl _) gall (esc_kill hesc2 _)
                  have hreg := (hS.reg.mono (g5.lat hS.hr))
                  have hmk : Marks n0 K1 ((w.alloc (.deferred (some []))).alloc (.loop { state := .ready, pending := none, fn := fn, tmps := a.tmps, params := ps, assign := assign, body := body, defers := w.heap.size })) ([{ target := .collected w.heap.size, args := #[] }] ++ a.defers) := by
                    obtain ⟨h0, Ds, hm1, hm2, hm3⟩ := hS.marks.goes hS.hr g12
                    obtain ⟨_, Ds0, hm10, _, hm30⟩ := hS.marks
                    have hDs : Ds = Ds0 := by
                      rw [hm1] at hm10
                      have hinj := congrArg (List.map fun d : Deferred => match d.target with | .collected r => r | _ => 0) hm10
                      simp [List.map_map] at hinj
                      have : ∀ l : List Nat, List.map ((fun d : Deferred => match d.target with | .collected r => r | _ => 0) ∘ fun D => { target := .collected D, args := #[] }) l = l := by
                        intro l
                        have : ((fun d : Deferred => match d.target with | .collected r => r | _ => 0) ∘ fun D => { target := .collected D, args := #[] }) = id := rfl
                        rw [this, List.map_id]
                      rwa [this, this] at hinj
                    subst hDs
                    refine ⟨h0, w.heap.size :: Ds, by rw [hm1]; rfl, List.nodup_cons.2 ⟨fun hm => ?_, hm2⟩, ?_⟩
                    · have := (Array.getElem?_eq_some_iff.1 (hm30 _ hm).2.1).1
                      omega
                    · intro D hD
                      rcases List.mem_cons.1 hD with rfl | hD
                      · refine ⟨hsz, ?_, fun hI => ?_⟩
                        · show ((w.heap.push _).push _)[w.heap.size]? = _
                          rw [get_push_lt _ (by simp)]
                          exact get_push_last _ _
                        · rcases g12.tr.inew _ hI with h | h | h
                          · have := hS.hr.ilt _ h; omega
                          · rcases g2.tr.inew _ hI with h2 | h2 | h2
                            · have := hS.hr.ilt _ h2; omega
                            · rw [hsize] at h2; omega
                            · obtain ⟨d, y, hy, hyw, he⟩ := h2
                              have := hS.hr.lt d y hy (wrt_live hyw)
                              omega
                          · have := hS.hr.img_lt h; omega
                      · exact hm3 D hD
                  have hmk2 := (hmk.goes g12.hr g3).goes g3.hr g4
                  have hSR : SR n0 K2 { s with h := H.trim { h' with bs := h'.bs.set s.h.bs.length .dead } s.h.bs.length } { a with defers := [{ target := .collected w.heap.size, args := #[] }] ++ a.defers } (w2.putObj (w.heap.size + 1) (.loop { l with state := .exhausted })) :=
                    ⟨g5.hr, hesc5, hreg, hmk2⟩
                  rw [hl2] at g5 hSR ⊢
                  cases pend with
                  | none =>
                    cases hj
                    exact ⟨K2, g5, hSR, trivial⟩
                  | some c =>
                    simp only
                    cases c with
                    | ret => cases hj; exact wpIn_ret ⟨K2, g5, hSR, trivial⟩
                    | exit id => cases hj; exact wpIn_exit ⟨K2, g5, hSR, rfl⟩
                    | goto l => cases hj; exact wpIn_goto ⟨K2, g5, hSR, rfl⟩
                    | _ => cases hj
            · cases hy'
          · cases hev
      · cases hev
    · cases hev
  · cases hev

/-- All code. -/
theorem code_sound {E : Env} (hE : EnvOk E) {call : CallF} (hc : CallSound E.P call) {jmp : JumpF} (hj : JumpSound E.P jmp) {ro : Option Nat} {rd : Bool} (hrd : rd = ro.isSome) (fid : FuncId) :
    ∀ c : Code, CodeGood E.P ro c (evCode E call jmp rd fid c) := by
  intro c
  induction c with
  | skip =>
    intro s x s' n0 K a w h hS
    cases h
    exact wpIn_skip ⟨K, Goes.refl hS.hr, hS, trivial⟩
  | region id ops draw =>
    intro s x s' n0 K a w h hS
    simp only [evCode] at h
    split at h
    · rename_i hd
      subst hd
      exact drawn_sound hE hc h hS
    · rename_i hd
      have hd : draw = false := by simpa using hd
      subst hd
      refine wpIn_region ?_
      rw [List.range_eq_range']
      have := ops_sound hE hc (ro := ro) (ops := ops) hS.hr ops.toList 0 s K a w (fun i => by simp) h (Goes.refl hS.hr) hS
      simpa using this
  | seq c1 c2 ih1 ih2 =>
    intro s x s' n0 K a w h hS
    simp only [evCode] at h
    refine wpIn_seq ?_
    split at h
    · rename_i s1 h1
      refine wpIn_mono (ih1 _ _ _ n0 K a w h1 hS) fun e a' w' hp => ?_
      obtain ⟨K', g1, g2, g3⟩ := hp
      cases g3.normal
      exact wpIn_mono (ih2 _ _ _ n0 K' a' w' h g2) fun e a' w' hp => PostR.trans g1 hp
    · rename_i r hnn
      refine wpIn_mono (ih1 _ _ _ n0 K a w h hS) fun e a' w' hp => ?_
      cases e with
      | normal =>
        obtain ⟨K', h1, h2, h3⟩ := hp
        exact (h3.not_normal fun e => hnn _ (by rw [h, e])).elim
      | _ => exact hp
  | cond v c1 c2 ih1 ih2 =>
    intro s x s' n0 K a w h hS
    simp only [evCode] at h
    have hv := opnd_rep hS.reg v
    split at h
    · rename_i t ht
      rw [ht] at hv
      have hv := hv.inv_bool
      cases t with
      | true =>
        rw [if_pos rfl] at h
        exact wpIn_cond_true hv (ih1 _ _ _ n0 K a w h hS)
      | false =>
        rw [if_neg (by simp)] at h
        exact wpIn_cond_false hv (ih2 _ _ _ n0 K a w h hS)
    · cases h
  | block id c ih =>
    intro s x s' n0 K a w h hS
    simp only [evCode] at h
    refine wpIn_block ?_
    split at h
    · rename_i id' s1 h1
      refine wpIn_mono (ih _ _ _ n0 K a w h1 hS) fun e a' w' hp => ?_
      obtain ⟨K', g1, g2, g3⟩ := hp
      cases g3.exit
      simp only [Exit.inBlock]
      split at h
      · rename_i hid
        cases h
        rw [if_pos hid]
        exact ⟨K', g1, g2, trivial⟩
      · rename_i hid
        cases h
        rw [if_neg hid]
        exact ⟨K', g1, g2, rfl⟩
    · rename_i r hnn
      refine wpIn_mono (ih _ _ _ n0 K a w h hS) fun e a' w' hp => ?_
      cases e with
      | exit id' =>
        exfalso
        obtain ⟨K', h1, h2, h3⟩ := hp
        cases x with
        | exit j => exact hnn _ _ h
        | _ => exact h3
      | _ => exact hp
  | loop c ih =>
    intro s x s' n0 K a w h hS
    simp only [evCode] at h
    exact wpIn_loop_rounds E.fuel (loop_sound ih _ hS.hr E.fuel s K a w h (Goes.refl hS.hr) hS)
  | rangeFunc g ps assign body _ _ =>
    intro s x s' n0 K a w h hS
    simp only [evCode] at h
    cases rd with
    | true => cases h
    | false =>
      cases ro with
      | some l => cases hrd
      | none => exact range_sound hc s x s' n0 K a w h hS
  | exit id =>
    intro s x s' n0 K a w h hS
    cases h
    exact wpIn_exit ⟨K, Goes.refl hS.hr, hS, rfl⟩
  | label l =>
    intro s x s' n0 K a w h hS
    cases h
    exact wpIn_label ⟨K, Goes.refl hS.hr, hS, trivial⟩
  | goto l =>
    intro s x s' n0 K a w h hS
    cases h
    exact wpIn_goto ⟨K, Goes.refl hS.hr, hS, rfl⟩
  | ret =>
    intro s x s' n0 K a w h hS
    cases h
    exact wpIn_ret ⟨K, Goes.refl hS.hr, hS, trivial⟩
  | scope c ih =>
    intro s x s' n0 K a w h hS
    simp only [evCode] at h
    refine wpIn_scope (E.fuel + 1) ?_
    simp only [scopeIn]
    split at h
    · rename_i l s1 h1
      refine wpIn_mono (ih _ _ _ n0 K a w h1 hS) fun e a' w' hp => ?_
      obtain ⟨K', g1, g2, g3⟩ := hp
      cases g3.goto
      exact jumps_sound (fun c => hj ro rd fid c hrd) E.fuel l s1 K' a' w' h g1 g2
    · rename_i r hnn
      refine wpIn_mono (ih _ _ _ n0 K a w h hS) fun e a' w' hp => ?_
      cases e with
      | goto l1 =>
        exfalso
        obtain ⟨K', h1, h2, h3⟩ := hp
        cases x with
        | goto j => exact hnn _ _ h
        | _ => exact h3
      | _ => exact hp
  | refuse m =>
    intro s x s' n0 K a w h hS
    cases h
end
end Go.Proofs.Ytnkeijebkpjdgaa.Ab
/- The engine: what is lent stands for what it stood for. -/
namespace Go.Proofs.Ytnkeijebkpjdgaa.Ab
open Go

mutual
theorem flat_clean : ∀ a : AV, a.flat = true → a.clean = true
  | .ifc _ v, h => by simp only [AV.flat] at h; simp only [AV.clean]; exact flat_clean v h
  | .agg c, h => by simp only [AV.flat] at h; simp only [AV.clean]; exact flatAll_clean c h
  | .tup c, h => by simp only [AV.flat] at h; simp only [AV.clean]; exact flatAll_clean c h
  | .hole, _ => rfl
  | .bool _, _ => rfl
  | .int .., _ => rfl
  | .str _, _ => rfl
  | .ptr0, _ => rfl
  | .sl0, _ => rfl
  | .map0, _ => rfl
  | .fn0, _ => rfl
  | .ifc0, _ => rfl
  | .vref .., _ => rfl
  | .sl .., _ => rfl
  | .ref .., h => by simp [AV.flat] at h
  | .rsl .., h => by simp [AV.flat] at h
  | .mref .., h => by simp [AV.flat] at h
  | .yc .., h => by simp [AV.flat] at h
  | .fn .., h => by simp [AV.flat] at h
theorem flatAll_clean : ∀ l : List AV, flatAll l = true → cleanL l = true
  | [], _ => rfl
  | v :: r, h => by
    simp only [flatAll, Bool.and_eq_true] at h
    simp only [cleanL, Bool.and_eq_true]
    exact ⟨flat_clean v h.1, flatAll_clean r h.2⟩
end
mutual
theorem RepP.flat {I J : Nat → Prop} {hp hq : Array Obj} {a : AV} {v : Value} (h : RepP I hp a v) (hf : a.flat = true) : RepP J hq a v := by
  cases h with
  | hole => simp [AV.flat] at hf
  | bool => exact .bool _
  | int => exact .int _ _
  | str => exact .str _
  | ptr0 => exact .ptr0
  | sl0 => exact .sl0
  | map0 => exact .map0
  | fn0 => exact .fn0
  | ifc0 => exact .ifc0
  | vref => simp [AV.flat] at hf
  | sl => simp [AV.flat] at hf
  | fn => simp [AV.flat] at hf
  | ifc h => exact .ifc (h.flat (by simpa only [AV.flat] using hf))
  | agg h => exact .agg (h.flat (by simpa only [AV.flat] using hf))
  | tup h => exact .tup (h.flat (by simpa only [AV.flat] using hf))
theorem RepPL.flat {I J : Nat → Prop} {hp hq : Array Obj} {l : List AV} {vs : List Value} (h : RepPL I hp l vs) (hf : flatAll l = true) : RepPL J hq l vs := by
  cases h with
  | nil => exact .nil
  | cons h0 h =>
    simp only [flatAll, Bool.and_eq_true] at hf
    exact .cons (h0.flat hf.1) (h.flat hf.2)
end
section
variable {K : KS} {bs : List AB} {hp : Array Obj}
def LendOk (K : KS) (bs : List AB) (hp : Array Obj) (deep : List AV → List AV) : Prop := ∀ (l : List AV) (vs : List Value), RepVL K bs hp l vs → cleanL (deep l) = true → RepPL (fun c => c < hp.size) hp (deep l) vs
theorem lent_cells (hr : HR K bs hp) {deep : List AV → List AV} (hd : LendOk K bs hp deep) {b : Nat} {c d : List AV} {i : BI} (hb : bs[b]? = some (.cells c i)) (h : lentC deep c i = some d) :
    ∃ us, K.β b < hp.size ∧ (∀ (j : Nat) (u : Value), us[j]? = some u → cellH hp (K.β b) j = some u ∧ u.oneCell' = true) ∧ RepPL (fun c => c < hp.size) hp d us ∧ d.length = c.length := by
  obtain ⟨o, ho, cc, e, lo, hi, us, rfl, h2, h3, h4, h5, h6⟩ := hr.obj b _ hb rfl
  have hcell : ∀ (j : Nat) (u : Value), us[j]? = some u → cellH hp (K.β b) j = some u ∧ u.oneCell' = true := by
    intro j u hu
    unfold cellH
    rw [ho]
    exact h4 j u hu
  unfold lentC at h
  split at h
  · rename_i hcl
    cases h
    exact ⟨us, hr.lt b _ hb rfl, hcell, (h5.toP (h6 hcl)).mono (fun c hc => hr.ilt c hc) (fun _ _ => rfl), rfl⟩
  · split at h
    · rename_i hq
      cases h
      rw [Bool.and_eq_true, beq_iff_eq] at hq
      exact ⟨us, hr.lt b _ hb rfl, hcell, hd c us h5 hq.1, hq.2⟩
    · cases h
mutual
theorem lendV_sound (hr : HR K bs hp) {deep : List AV → List AV} (hd : LendOk K bs hp deep) : ∀ (a : AV) {v : Value}, RepV K bs hp a v → (lendV deep bs a).clean = true → RepP (fun c => c < hp.size) hp (lendV deep bs a) v
  | .rsl b off n cap ver, v, h, hc => by
    simp only [lendV] at hc ⊢
    cases hb : bs[b]? with
    | none => simp [hb, AV.clean] at hc
    | some x =>
      cases x with
      | cells c i =>
        simp only [hb] at hc ⊢
        by_cases hq : ver = verA i c.length ∧ off + n * i.sz ≤ c.length ∧ 0 < i.sz
        · rw [if_pos hq] at hc ⊢
          cases hl : lentC deep c i with
          | none => simp [hl, AV.clean] at hc
          | some d =>
            simp only [hl] at hc ⊢
            obtain ⟨us, h5, h6, h7, h8⟩ := lent_cells hr hd hb hl
            obtain ⟨x, o, cp, rfl, _, e2, e3, e5, e4⟩ := h.inv_rsl
            obtain rfl := (e4 c i hb hq.1).1
            have ht : tightA cap n = true → cp = n := by
              intro ht
              cases cap with
              | none => simp [tightA] at ht
              | some m => simp [tightA] at ht; rw [e3 m rfl, ht]
            rcases e5 with e5 | e5
            · have hn0 : n = 0 := by omega
              subst hn0
              split
              · rename_i hw
                have hc0 : d = [] := List.eq_nil_of_length_eq_zero (by omega)
                subst hc0
                exact .sl e2 ht (.inl rfl) (us := []) (fun i u hu => by simp at hu) .nil (.inl rfl)
              · rw [Nat.zero_mul, List.take_zero]
                exact .sl e2 ht (.inl rfl) (us := []) (fun i u hu => by simp at hu) .nil (.inl rfl)
            · subst e5
              split
              · rename_i hw
                refine .sl e2 ht (.inr h5) (us := us) ?_ h7 (.inl rfl)
                rw [hw.1]; simpa using h6
              · exact .sl e2 ht (.inr h5) (us := (us.drop o).take (n * i.sz)) (cells_mono h6 _) ((h7.drop _).take _) (.inl rfl)
        · rw [if_neg hq] at hc
          simp [AV.clean] at hc
      | _ => simp [hb, AV.clean] at hc
  | .ref b off ver, v, h, hc => by
    simp only [lendV] at hc ⊢
    cases hb : bs[b]? with
    | none => simp [hb, AV.clean] at hc
    | some x =>
      cases x with
      | cells c i =>
        simp only [hb] at hc ⊢
        by_cases hq : ver = verA i c.length
        · rw [if_pos hq] at hc ⊢
          cases hl : lentC deep c i with
          | none => simp [hl, AV.clean] at hc
          | some d =>
            simp only [hl] at hc ⊢
            obtain ⟨us, h5, h6, h7, h8⟩ := lent_cells hr hd hb hl
            obtain ⟨x, rfl, _, e1⟩ := h.inv_ref
            obtain rfl := e1 c i hb hq
            have := RepP.vref (I := fun c => c < hp.size) (hp := hp) (off := off) (o := 0) (.inr h5) (fun i u hu => by simpa using h6 i u hu) h7
            simpa using this
        · rw [if_neg hq] at hc
          simp [AV.clean] at hc
      | _ => simp [hb, AV.clean] at hc
  | .fn f x y, v, h, hc => by
    simp only [lendV] at hc ⊢
    simp only [AV.clean, Bool.and_eq_true] at hc
    obtain ⟨va, vb, rfl, h1, h2⟩ := h.inv_fn
    exact .fn (lendVL_sound hr hd x h1 hc.1) (lendVL_sound hr hd y h2 hc.2)
  | .ifc t a, v, h, hc => by
    simp only [lendV] at hc ⊢
    simp only [AV.clean] at hc
    obtain ⟨u, rfl, h1⟩ := h.inv_ifc
    exact .ifc (lendV_sound hr hd a h1 hc)
  | .agg c, v, h, hc => by
    simp only [lendV] at hc ⊢
    simp only [AV.clean] at hc
    obtain ⟨u, rfl, h1⟩ := h.inv_agg
    exact .agg (lendVL_sound hr hd c h1 hc)
  | .tup c, v, h, hc => by
    simp only [lendV] at hc ⊢
    simp only [AV.clean] at hc
    obtain ⟨u, rfl, h1⟩ := h.inv_tup
    exact .tup (lendVL_sound hr hd c h1 hc)
  | .hole, v, h, hc => by simp only [lendV] at hc ⊢; exact (h.toP hc).mono (fun c hc => hr.ilt c hc) (fun _ _ => rfl)
  | .bool _, v, h, hc => by simp only [lendV] at hc ⊢; exact (h.toP hc).mono (fun c hc => hr.ilt c hc) (fun _ _ => rfl)
  | .int .., v, h, hc => by simp only [lendV] at hc ⊢; exact (h.toP hc).mono (fun c hc => hr.ilt c hc) (fun _ _ => rfl)
  | .str _, v, h, hc => by simp only [lendV] at hc ⊢; exact (h.toP hc).mono (fun c hc => hr.ilt c hc) (fun _ _ => rfl)
  | .ptr0, v, h, hc => by simp only [lendV] at hc ⊢; exact (h.toP hc).mono (fun c hc => hr.ilt c hc) (fun _ _ => rfl)
  | .sl0, v, h, hc => by simp only [lendV] at hc ⊢; exact (h.toP hc).mono (fun c hc => hr.ilt c hc) (fun _ _ => rfl)
  | .map0, v, h, hc => by simp only [lendV] at hc ⊢; exact (h.toP hc).mono (fun c hc => hr.ilt c hc) (fun _ _ => rfl)
  | .fn0, v, h, hc => by simp only [lendV] at hc ⊢; exact (h.toP hc).mono (fun c hc => hr.ilt c hc) (fun _ _ => rfl)
  | .ifc0, v, h, hc => by simp only [lendV] at hc ⊢; exact (h.toP hc).mono (fun c hc => hr.ilt c hc) (fun _ _ => rfl)
  | .vref .., v, h, hc => by simp only [lendV] at hc ⊢; exact (h.toP hc).mono (fun c hc => hr.ilt c hc) (fun _ _ => rfl)
  | .sl .., v, h, hc => by simp only [lendV] at hc ⊢; exact (h.toP hc).mono (fun c hc => hr.ilt c hc) (fun _ _ => rfl)
  | .mref .., v, h, hc => by simp only [lendV] at hc; simp [AV.clean] at hc
  | .yc .., v, h, hc => by simp only [lendV] at hc; simp [AV.clean] at hc
theorem lendVL_sound (hr : HR K bs hp) {deep : List AV → List AV} (hd : LendOk K bs hp deep) : ∀ (l : List AV) {vs : List Value}, RepVL K bs hp l vs → cleanL (lendVL deep bs l) = true → RepPL (fun c => c < hp.size) hp (lendVL deep bs l) vs
  | [], vs, h, hc => by
    simp only [lendVL]
    cases h
    exact .nil
  | a :: l, vs, h, hc => by
    simp only [lendVL] at hc ⊢
    simp only [cleanL, Bool.and_eq_true] at hc
    cases h with
    | cons h0 h => exact .cons (lendV_sound hr hd a h0 hc.1) (lendVL_sound hr hd l h hc.2)
end
theorem lendL_sound (hr : HR K bs hp) : ∀ n, LendOk K bs hp (lendL n bs)
  | 0 => fun l vs h hc => by
    simp only [lendL] at hc ⊢
    exact (h.toP hc).mono (fun c hc => hr.ilt c hc) (fun _ _ => rfl)
  | n + 1 => fun l vs h hc => by
    simp only [lendL] at hc ⊢
    exact lendVL_sound hr (lendL_sound hr n) l h hc
end
/-! What names no block is lent as it is. -/
mutual
theorem lendV_clean {deep : List AV → List AV} {bs : List AB} : ∀ a : AV, a.clean = true → lendV deep bs a = a
  | .fn _ x y, h => by
    simp only [AV.clean, Bool.and_eq_true] at h
    simp only [lendV, lendVL_clean x h.1, lendVL_clean y h.2]
  | .ifc _ v, h => by
    simp only [AV.clean] at h
    simp only [lendV, lendV_clean v h]
  | .agg c, h => by
    simp only [AV.clean] at h
    simp only [lendV, lendVL_clean c h]
  | .tup c, h => by
    simp only [AV.clean] at h
    simp only [lendV, lendVL_clean c h]
  | .ref .., h => by simp [AV.clean] at h
  | .rsl .., h => by simp [AV.clean] at h
  | .mref .., _ => rfl
  | .yc .., _ => rfl
  | .hole, _ => rfl
  | .bool _, _ => rfl
  | .int .., _ => rfl
  | .str _, _ => rfl
  | .ptr0, _ => rfl
  | .sl0, _ => rfl
  | .map0, _ => rfl
  | .fn0, _ => rfl
  | .ifc0, _ => rfl
  | .vref .., _ => rfl
  | .sl .., _ => rfl
theorem lendVL_clean {deep : List AV → List AV} {bs : List AB} : ∀ l : List AV, cleanL l = true → lendVL deep bs l = l
  | [], _ => rfl
  | v :: r, h => by
    simp only [cleanL, Bool.and_eq_true] at h
    simp only [lendVL, lendV_clean v h.1, lendVL_clean r h.2]
end
theorem lendL_clean : ∀ (n : Nat) (bs : List AB) (l : List AV), cleanL l = true → lendL n bs l = l
  | 0, _, _, _ => rfl
  | _ + 1, _, l, h => lendVL_clean l h
/-- A row that names no block. -/
theorem lendV_row {m : Nat} {bs : List AB} {b n ver : Nat} {cap : Option Nat} {c : List AV} {i : BI} (hb : bs[b]? = some (.cells c i)) (hv : ver = verA i c.length) (hc : cleanL c = true) (hl : c.length = n * i.sz) (hz : 0 < i.sz) : lendV (lendL m bs) bs (.rsl b 0 n cap ver) = .sl c n (tightA cap n) := by
  have hd : lentC (lendL m bs) c i = some c := by
    unfold lentC
    rw [lendL_clean m bs c hc, hc]
    simp
  simp only [lendV, hb]
  rw [if_pos ⟨hv, by omega, hz⟩, hd]
  simp [hl]
end Go.Proofs.Ytnkeijebkpjdgaa.Ab
/- The engine, twenty-third text: calls are sound. -/
namespace Go.Proofs.Ytnkeijebkpjdgaa.Ab
open Go

section
variable {P : Program}
theorem sure_as {a : Value} {t : TypeId} {w : World} {v : Value} {w' : World} (h : (Instr.loadAt t a).run P w = .ok v w') : (do loadVar t (← asAddr a) : Sem Value).run P w = .ok v w' := by
  unfold Instr.loadAt at h
  rw [Sem.run_bind] at h ⊢
  cases a with
  | pointer p =>
    cases p with
    | some x => exact h
    | none => simp [Instr.sureAddr, Result.andThen] at h
  | _ => simp [Instr.sureAddr, Result.andThen] at h
def resM (tmps : Array Value) : ResultVar → Sem Value
  | .tmp t => pure (tmps.getD t undef)
  | .cell a t => do loadVar t (← asAddr (tmps.getD a undef))
theorem res_list {s : ST} {K : KS} {w : World} {tmps : Array Value} (hr : HR K s.h.bs w.heap) (hreg : RegR K s.h.bs w.heap s.tmps tmps) : ∀ (l : List ResultVar) (vs : List AV), resA P s l = some vs →
    ∃ us : List Value, Sem.run P (l.mapM (resM tmps)) w = .ok us w ∧ RepVL K s.h.bs w.heap vs us
  | [], vs, h => by
    cases h
    exact ⟨[], rfl, .nil⟩
  | .tmp t :: l, vs, h => by
    simp only [resA, Option.map_eq_some_iff] at h
    obtain ⟨vs', h1, rfl⟩ := h
    obtain ⟨us, h2, h3⟩ := res_list hr hreg l vs' h1
    refine ⟨tmps.getD t undef :: us, ?_, .cons (hreg.2 t) h3⟩
    rw [List.mapM_cons, Sem.run_bind]
    simp only [resM, Sem.run_pure, Result.andThen_ok, Sem.run_bind, h2]
  | .cell a t :: l, vs, h => by
    simp only [resA] at h
    split at h
    · rename_i v x hm
      simp only [Option.map_eq_some_iff] at h
      obtain ⟨vs', h1, rfl⟩ := h
      obtain ⟨us, h2, h3⟩ := res_list hr hreg l vs' h1
      obtain ⟨u, h4, h5, _⟩ := load_sound (P := P) hr (nid := 0) (hreg.2 a) hm
      refine ⟨u :: us, ?_, .cons h5 h3⟩
      rw [List.mapM_cons, Sem.run_bind]
      have h6 : (resM tmps (.cell a t)).run P w = .ok u w := sure_as h4
      rw [h6]
      simp only [Sem.run_pure, Result.andThen_ok, Sem.run_bind, h2]
    · cases h
theorem results_sound {s : ST} {K : KS} {w : World} {tmps : Array Value} (hr : HR K s.h.bs w.heap) (hreg : RegR K s.h.bs w.heap s.tmps tmps) {fn : Func} {vs : List AV} (h : resA P s fn.results.toList = some vs) :
    ∃ v, (results fn tmps).run P w = .ok v w ∧ RepV K s.h.bs w.heap (asOne vs) v := by
  obtain ⟨us, h1, h2⟩ := res_list hr hreg _ _ h
  have he : results fn tmps = (do let vs ← fn.results.mapM (resM tmps); pure (if h : vs.size = 1 then vs[0] else .tuple vs)) := rfl
  rw [he, Array.mapM_eq_mapM_toList]
  refine ⟨if h : us.toArray.size = 1 then us.toArray[0] else .tuple us.toArray, ?_, ?_⟩
  · simp only [Sem.run_bind, map_eq_pure_bind, h1, Result.andThen_ok, Sem.run_pure]
  · have hl := h2.len
    unfold asOne
    split
    · rename_i v
      cases h2 with
      | cons h0 h2 =>
        cases h2
        simpa using h0
    · rename_i hne
      have : us.toArray.size ≠ 1 := by
        intro e
        have e1 : us.length = 1 := by simpa using e
        cases vs with
        | nil => simp at hl; omega
        | cons v vs =>
          cases vs with
          | nil => exact hne v rfl
          | cons _ _ => simp at hl; omega
      rw [dif_neg this]
      exact .tup h2
end

section
variable {K0 K : KS} {bs0 bs : List AB} {w0 w : World}
/-- The block of a loop's deferred calls is shut. -/
theorem shut_one {D : Nat} (hg : Goes K0 bs0 w0 K bs w) (hD : w0.heap.size ≤ D) (hd : w.heap[D]? = some (.deferred (some []))) (hI : ¬ K.I D) :
    Goes K0 bs0 w0 K bs (w.putObj D (.deferred none)) ∧ Lat K bs w.heap K bs (w.putObj D (.deferred none)).heap := by
  have hk : ∀ c, c ≠ D → (w.putObj D (.deferred none)).heap[c]? = w.heap[c]? := fun c hc => World.putObj_heap_other hc
  have L : Lat K bs w.heap K bs (w.putObj D (.deferred none)).heap :=
    { imono := fun _ h => h
      same := fun c hc => hk c fun e => hI (e ▸ hc)
      born := fun _ _ h => h
      cells := fun b ver _ c' i' hc he => ⟨c', i', hc, he, rfl, rfl, rfl, rfl, rfl⟩
      map := fun b _ es h => ⟨es, h, rfl⟩
      loop := fun b _ f t p a c s j h => ⟨f, t, p, a, c, s, j, h, rfl⟩ }
  refine ⟨⟨⟨?_, fun c hc hn => ?_, hg.tr.imono, hg.tr.inew, hg.tr.img, hg.tr.le, hg.tr.void, hg.tr.len⟩, ⟨hg.hr.inj, ?_, fun c hc => ?_, hg.hr.wr, hg.hr.nwr⟩, hg.os, hg.tape, hg.output⟩, L⟩
  · rw [World.putObj_size]; exact hg.tr.size
  · exact (hk c (by omega)).trans (hg.tr.keep c hc hn)
  · intro b x hx hl
    obtain ⟨o, ho, hR⟩ := hg.hr.obj b x hx hl
    refine ⟨o, (hk _ fun e => ?_).trans ho, hR.mono L⟩
    cases hw : x.wrt with
    | true => exact img_kind hg.hr ⟨b, x, hx, hw, e⟩ hd
    | false =>
      cases x with
      | cells c i => exact hI (e ▸ (hg.hr.nwr b c i hx hw).1)
      | map es => cases hw
      | loop => cases hw
      | dead => cases hl
      | void => cases hl
  · rw [World.putObj_size]; exact hg.hr.ilt c hc
theorem leaves_sound {P : Program} {fn : Func} {tmps : Array Value} {R : Ending → World → Prop} {u : FrameMode} (hu : u ≠ .run) : ∀ (Ds : List Nat) (w : World), Goes K0 bs0 w0 K bs w → Ds.Nodup →
    (∀ D ∈ Ds, w0.heap.size ≤ D ∧ w.heap[D]? = some (.deferred (some [])) ∧ ¬ K.I D) →
    (∀ w', Goes K0 bs0 w0 K bs w' → (∀ a v, RepV K bs w.heap a v → RepV K bs w'.heap a v) → LeavesIn Fence.wide 0 P fn tmps R [] u w') →
    LeavesInM Fence.wide 0 P fn tmps R (Ds.map fun D => { target := .collected D, args := #[] }) u w
  | [], w, hg, _, _, h => h w hg fun _ _ h => h
  | D :: Ds, w, hg, hn, hD, h => by
    obtain ⟨h1, h2, h3⟩ := hD D (List.mem_cons_self ..)
    obtain ⟨g1, L⟩ := shut_one hg h1 h2 h3
    have hn' := List.nodup_cons.1 hn
    refine ⟨hu, .inl ⟨D, _, rfl, run_takeDeferred h2, leaves_sound hu Ds _ g1 hn'.2 (fun D' hD' => ?_) fun w' g' hR => h w' g' fun a v hv => hR a v (hv.mono L)⟩⟩
    obtain ⟨k1, k2, k3⟩ := hD D' (List.mem_cons_of_mem _ hD')
    refine ⟨k1, ?_, k3⟩
    rw [World.putObj_heap_other fun e => hn'.1 (by rw [← e]; exact hD')]
    exact k2

theorem Sealed.goes {K' : KS} {bs' : List AB} (h : Sealed K bs w.heap K' bs') : Goes K bs w K' bs' w := ⟨h.tr, h.hr, rfl, rfl, rfl⟩
/-- A call's end. -/
theorem leave_sound {h0 h : H} {raw : Bool} (hg : Goes K0 h0.bs w0 K h.bs w) (he : EscR h) {v : AV} {u : Value} (hv : RepV K h.bs w.heap v u) :
    ∃ K', Goes K0 h0.bs w0 K' (leaveA raw h0.bs.length v h).2.bs w ∧ EscR (leaveA raw h0.bs.length v h).2 ∧ RepV K' (leaveA raw h0.bs.length v h).2.bs w.heap (leaveA raw h0.bs.length v h).1 u := by
  have key : ∀ (v' : AV) (bs' : List AB) (K' : KS), Goes K h.bs w K' bs' w → EscR { h with bs := bs' } → RepV K' bs' w.heap v' u → ∀ r, (if v'.und h0.bs.length && escOk h0.bs.length h.esc then (v', ({ bs := bs'.take h0.bs.length, esc := escCut h0.bs.length h.esc } : H)) else (v', { h with bs := bs' })) = r →
      ∃ K', Goes K0 h0.bs w0 K' r.2.bs w ∧ EscR r.2 ∧ RepV K' r.2.bs w.heap r.1 u := by
    intro v' bs' K' g1 e1 r1 r hr
    have g2 := hg.trans g1
    split at hr
    · rename_i hc
      subst hr
      simp only [Bool.and_eq_true] at hc
      obtain ⟨h1, h2⟩ := HR.cut (h := { h with bs := bs' }) g1.hr e1 hc.2
      refine ⟨K', ⟨g2.tr.cut (Nat.le_refl _), h1, g2.os, g2.tape, g2.output⟩, h2, ?_⟩
      exact r1.near (fun b hb => by show (bs'.take _)[b]? = _; rw [List.getElem?_take, if_pos hb]) ((und_iff _ _).1 hc.1)
    · subst hr
      exact ⟨K', g2, e1, r1⟩
  unfold leaveA
  cases raw with
  | true =>
    simp only [if_true]
    exact key v h.bs K (Goes.refl hg.hr) he hv _ rfl
  | false =>
    simp only [Bool.false_eq_true, if_false]
    obtain ⟨K', s1, s2⟩ := seal_sound hg.hr v hv
    exact key _ _ K' s1.goes (s1.top.esc he) s2 _ rfl
end

section
variable {E : Env}
theorem fence_none : fence none = Fence.wide := rfl
/-- A function's body. -/
theorem body_sound (hE : EnvOk E) {call : CallF} (hc : CallSound E.P call) {jmp : JumpF} (hj : JumpSound E.P jmp) {raw : Bool} {f : FuncId} {fn : Func} {c : Code} (hf : E.P.funcs[f]? = some fn) (hb : fn.body = some c)
    {args : List AV} {h : H} {r : AR} {h' : H} (hev : evBody E call jmp raw f fn c args h = some (r, h')) {K : KS} {w : World} (hr : HR K h.bs w.heap) (he : EscR h) {vals : List Value} (ha : RepVL K h.bs w.heap args vals) :
    Calls E.P f vals.toArray w (DoneR K h w r h') := by
  refine (callsIn_wide (n := 0)).1 (callsIn_of_wp_marks hf hb trivial ?_)
  unfold evBody at hev
  split at hev
  · rename_i hlen
    have hS : SR w.heap.size K { tmps := (RG.empty fn.ntmps).puts 0 args, h := h } { tmps := vals.toArray ++ Array.replicate (fn.ntmps - vals.toArray.size) undef, defers := [] } w :=
      ⟨hr, he, RegR.start ha hlen, Marks.nil (Nat.le_refl _) K⟩
    rw [← fence_none]
    -- how a body ends well
    have good : ∀ (s : ST) (e : Exit) (a' : Act) (w' : World) (K' : KS), Goes K h.bs w K' s.h.bs w' → SR w.heap.size K' s a' w' → (∀ vs, resA E.P s fn.results.toList = some vs → (let (v, h'') := leaveA raw h.bs.length (asOne vs) s.h; some (AR.ret v, h'')) = some (r, h') →
        LeavesInM Fence.wide 0 E.P fn a'.tmps (DoneR K h w r h') a'.defers .returning w') := by
      intro s e a' w' K' g1 g2 vs hvs hev
      obtain ⟨_, Ds, hm1, hm2, hm3⟩ := g2.marks
      rw [hm1]
      refine leaves_sound (by simp) Ds w' g1 hm2 hm3 fun w'' g3 hR => ?_
      have hreg : RegR K' s.h.bs w''.heap s.tmps a'.tmps := ⟨g2.reg.1, fun i => hR _ _ (g2.reg.2 i)⟩
      obtain ⟨v, h1, h2⟩ := results_sound g3.hr hreg hvs
      refine ⟨v, h1, ?_⟩
      obtain ⟨K'', k1, k2, k3⟩ := leave_sound (raw := raw) (h0 := h) g3 g2.esc h2
      cases hev
      exact ⟨K'', k1, k2, k3⟩
    have post : ∀ x s, evCode E call jmp false f c { tmps := (RG.empty fn.ntmps).puts 0 args, h := h } = some (x, s) → (∀ e a' w', PostR w.heap.size K { tmps := (RG.empty fn.ntmps).puts 0 args, h := h } w x s e a' w' → bodyPostM Fence.wide 0 E.P fn (DoneR K h w r h') e a' w') →
        c.wpIn (fence none) 0 E.P (bodyPostM Fence.wide 0 E.P fn (DoneR K h w r h')) { tmps := vals.toArray ++ Array.replicate (fn.ntmps - vals.toArray.size) undef, defers := [] } w :=
      fun x s hx hp => wpIn_mono (code_sound hE hc hj (ro := none) rfl f c _ x s _ K _ w hx hS) hp
    split at hev
    · rename_i s hx
      split at hev
      · rename_i vs hvs
        refine post _ _ hx fun e a' w' hp => ?_
        obtain ⟨K', g1, g2, g3⟩ := hp
        cases g3.normal
        exact good s .normal a' w' K' g1 g2 vs hvs hev
      · cases hev
    · rename_i s hx
      split at hev
      · rename_i vs hvs
        refine post _ _ hx fun e a' w' hp => ?_
        obtain ⟨K', g1, g2, g3⟩ := hp
        cases g3.ret
        exact good s .ret a' w' K' g1 g2 vs hvs hev
      · cases hev
    · rename_i v s hx
      refine post _ _ hx fun e a' w' hp => ?_
      obtain ⟨K', g1, g2, g3⟩ := hp
      cases e with
      | panic chain =>
        obtain ⟨u, rfl, hu⟩ := g3
        obtain ⟨_, Ds, hm1, hm2, hm3⟩ := g2.marks
        show LeavesInM _ _ _ _ _ _ a'.defers _ _
        rw [hm1]
        refine leaves_sound (by simp) Ds w' g1 hm2 hm3 fun w'' g4 hR => ?_
        obtain ⟨K'', k1, k2, k3⟩ := leave_sound (raw := false) (h0 := h) g4 g2.esc (hR _ _ hu)
        cases hev
        exact ⟨K'', k1, k2, u, rfl, k3⟩
      | _ => exact g3.elim
    · cases hev
  · cases hev

theorem endR_sound {b n : Nat} {st : LoopState} {p : Option Code} (hst : st = if p.isNone then .ready else .done) {K0 K : KS} {h0 h : H} {w0 w : World} (hn : n = h0.bs.length) (hg : Goes K0 h0.bs w0 K h.bs w) (he : EscR h) (hlt : b < n) {r : AR} {h' : H} (hev : endR b n st p h = some (r, h')) {l : Nat} (hl : ∀ f t ps as_ bo st j, h.bs[b]? = some (.loop f t ps as_ bo st j) → l = K.β b) {P : Program} :
    ∃ v w', (Instr.endRound l p).run P w = .ok v w' ∧ DoneR K0 h0 w0 r h' (.returned v) w' := by
  unfold endR at hev
  split at hev
  · rename_i f t ps as_ bo st0 j0 hb
    cases hev
    have e := hl _ _ _ _ _ _ _ hb
    subst e
    obtain ⟨lo, ho, h1, h2, h3, h4, h5, h6, K', g1, hβ⟩ := goes_loop hg.hr (st' := st) (j' := p) hb
    refine ⟨_, _, run_endRound p ho, ?_⟩
    subst hn
    have g2 := hg.trans g1
    rw [hst] at g2
    obtain ⟨g3, g4, _⟩ := trim_sound (h := { h with bs := h.bs.set b (.loop f t ps as_ bo (if p.isNone then .ready else .done) p) }) (n := h0.bs.length) (Nat.le_refl _) g2 (esc_loop he hb)
    refine ⟨K', ?_, ?_, .clean (.bool _)⟩
    · rw [hst]; exact g3
    · rw [hst]; exact g4
  · cases hev
theorem fold_rep {K : KS} {bs : List AB} {hp : Array Obj} : ∀ (l : List (Tmp × AV)) (m : List (Tmp × Value)) (t : RG) (a : Array Value), l.map (·.1) = m.map (·.1) → RepVL K bs hp (l.map (·.2)) (m.map (·.2)) → RegR K bs hp t a →
    RegR K bs hp (l.foldl (fun t p => t.put p.1 p.2) t) (m.foldl (fun a p => a.setIfInBounds p.1 p.2) a)
  | [], [], t, a, _, _, h => h
  | [], _ :: _, _, _, h, _, _ => by simp at h
  | _ :: _, [], _, _, h, _, _ => by simp at h
  | (i, v) :: l, (j, u) :: m, t, a, h1, h2, h => by
    simp only [List.map_cons, List.cons.injEq] at h1
    obtain ⟨rfl, h1⟩ := h1
    simp only [List.map_cons] at h2
    cases h2 with
    | cons h0 h2 => exact fold_rep l m _ _ h1 h2 (h.put h0 i)

/-- A round of a loop over a function. -/
theorem yield_sound (hE : EnvOk E) {call : CallF} (hc : CallSound E.P call) {jmp : JumpF} (hj : JumpSound E.P jmp) {b : Nat} {args : List AV} {h : H} {r : AR} {h' : H} (hev : yieldA E call jmp b args h = some (r, h'))
    {K : KS} {w : World} (hr : HR K h.bs w.heap) (he : EscR h) {vals : List Value} (ha : RepVL K h.bs w.heap args vals) {fval : Value} (hf : RepV K h.bs w.heap (.yc b) fval) :
    MCall E.P fval vals.toArray w (DoneR K h w r h') := by
  unfold yieldA at hev
  split at hev
  · rename_i fid tmps ps assign body p0 hb
    split at hev
    · rename_i hlen
      split at hev
      · rename_i s1 hx1
        split at hev
        · rename_i fid1 tmps1 ps1 assign1 body1 p1 hb1
          obtain ⟨l, rfl, hlx⟩ := hf.inv_yc
          have hl := hlx _ _ _ _ _ _ _ hb
          subst hl
          obtain ⟨o, ho, lo, rfl, h1, h2, h3, h4, h5, h6⟩ := hr.obj b _ hb rfl
          have hval := ha.len
          have hps : ps.length = lo.params.size := by rw [← h3]; simp
          have hblt := (List.getElem?_eq_some_iff.1 hb).1
          refine .inr ⟨K.β b, lo.fn, _, lo.assign, lo.body, rfl, run_yield ho (by simp; omega), roundIn_of_wpIn trivial ?_⟩
          have hfence : Fence.wide.inRound (K.β b) = fence (some (K.β b)) := rfl
          rw [hfence, h4, h5]
          have hreg : RegR K h.bs w.heap ((ps.zip args).foldl (fun t p => t.put p.1 p.2) tmps) ((lo.params.zip vals.toArray).foldl (fun tmps (t, a) => tmps.setIfInBounds t a) lo.tmps) := by
            rw [← Array.foldl_toList]
            have hz : (lo.params.zip vals.toArray).toList = ps.zip vals := by rw [Array.toList_zip, h3]
            rw [hz]
            refine fold_rep _ _ _ _ ?_ ?_ h6
            · rw [List.map_fst_zip (by omega), List.map_fst_zip (by omega)]
            · rw [List.map_snd_zip (by omega), List.map_snd_zip (by omega)]
              exact ha
          have hS : SR w.heap.size K { tmps := (ps.zip args).foldl (fun t p => t.put p.1 p.2) tmps, h := h } { tmps := (lo.params.zip vals.toArray).foldl (fun tmps (t, a) => tmps.setIfInBounds t a) lo.tmps, defers := [] } w :=
            ⟨hr, he, hreg, Marks.nil (Nat.le_refl _) K⟩
          refine wpIn_mono (code_sound hE hc hj (ro := some (K.β b)) rfl fid assign _ _ s1 _ K _ w hx1 hS) fun e a1 w1 hp => ?_
          obtain ⟨K1, g1, g2, g3⟩ := hp
          cases g3.normal
          have hbo : born h.bs b 0 := ⟨_, hb, rfl, fun _ => Nat.zero_le _⟩
          obtain ⟨_, _, _, _, _, _, _, _, hβ1⟩ := (g1.lat hr).loop _ hbo _ _ _ _ _ _ _ hb1
          obtain ⟨lo1, ho1, k1, k2, k3, k4, k5, k6, K2, g4, hβ2⟩ := goes_loop g2.hr (st' := .busy) (j' := p1) hb1
          refine ⟨w1.putObj (K1.β b) (.loop { lo1 with state := .busy, pending := p1 }), ?_, ?_⟩
          · rw [← hβ1]
            have := run_beginRound (P := E.P) ho1 k1
            rw [this, ← k2]
          have hS2 : SR w.heap.size K2 { s1 with h := { s1.h with bs := s1.h.bs.set b (.loop fid1 tmps1 ps1 assign1 body1 .busy p1) } } a1 (w1.putObj (K1.β b) (.loop { lo1 with state := .busy, pending := p1 })) :=
            ⟨g4.hr, esc_loop g2.esc hb1, g2.reg.mono (g4.lat g2.hr), g2.marks.goes g2.hr g4⟩
          have g14 := g1.trans g4
          have fin : ∀ x s2, evCode E call jmp true fid body { s1 with h := { s1.h with bs := s1.h.bs.set b (.loop fid1 tmps1 ps1 assign1 body1 .busy p1) } } = some (x, s2) →
              (∀ e a2 w2 K3, Goes K h.bs w K3 s2.h.bs w2 → EscR s2.h → ExR K3 s2.h.bs w2.heap x e → (∀ f t ps as_ bo st j, s2.h.bs[b]? = some (.loop f t ps as_ bo st j) → K.β b = K3.β b) → roundPost E.P (K.β b) (DoneR K h w r h') e a2 w2) →
              body.wpIn (fence (some (K.β b))) 0 E.P (roundPost E.P (K.β b) (DoneR K h w r h')) a1 (w1.putObj (K1.β b) (.loop { lo1 with state := .busy, pending := p1 })) := by
            intro x s2 hx2 hfin
            refine wpIn_mono (code_sound hE hc hj (ro := some (K.β b)) rfl fid body _ x s2 _ K2 _ _ hx2 hS2) fun e a2 w2 hp => ?_
            obtain ⟨K3, g5, g6, g7⟩ := hp
            refine hfin e a2 w2 K3 (g14.trans g5) g6.esc g7 fun f t ps as_ bo st j hb2 => ?_
            obtain ⟨_, _, _, _, _, _, _, _, hβ3⟩ := ((g14.trans g5).lat hr).loop _ hbo _ _ _ _ _ _ _ hb2
            exact hβ3.symm
          split at hev
          · rename_i s2 hx2
            refine fin _ _ hx2 fun e a2 w2 K3 g5 g6 g7 hl => ?_
            cases g7.normal
            exact endR_sound rfl rfl g5 g6 hblt hev hl
          · rename_i s2 hx2
            refine fin _ _ hx2 fun e a2 w2 K3 g5 g6 g7 hl => ?_
            cases g7.ret
            exact endR_sound rfl rfl g5 g6 hblt hev hl
          · rename_i id s2 hx2
            refine fin _ _ hx2 fun e a2 w2 K3 g5 g6 g7 hl => ?_
            cases g7.exit
            exact endR_sound rfl rfl g5 g6 hblt hev hl
          · rename_i l' s2 hx2
            refine fin _ _ hx2 fun e a2 w2 K3 g5 g6 g7 hl => ?_
            cases g7.goto
            exact endR_sound rfl rfl g5 g6 hblt hev hl
          · cases hev
        · cases hev
      · cases hev
    · cases hev
  · cases hev

/-- What functions are known to hand back. -/
def SumOk (E : Env) : Prop := ∀ (f : FuncId) (args : List AV) (v : AV), E.sum f args = some v → v.clean = true → E.ok f = true →
  ∀ (K : KS) (w : World) (vals : List Value), HR K [] w.heap → RepVL K [] w.heap args vals → Calls E.P f vals.toArray w (DoneR K ⟨[], []⟩ w (.ret v) ⟨[], []⟩)

theorem done_clean {K : KS} {h hx : H} {w : World} {r : AR} (hr : HR K h.bs w.heap) (he : EscR h) {r' : AR} (hrc : (∃ v, r = .ret v ∧ v.clean = true ∧ r' = .ret v) ∨ (∃ v, r = .panic v ∧ v.clean = true ∧ r' = .panic v)) {e : Ending} {w' : World} (hd : DoneR K ⟨[], []⟩ w r hx e w') : DoneR K h w r' h e w' := by
  obtain ⟨K', g1, g2, g3⟩ := hd
  have g4 := clean_goes hr g1
  refine ⟨_, g4, he, ?_⟩
  rcases hrc with ⟨v, rfl, hc, rfl⟩ | ⟨v, rfl, hc, rfl⟩
  · cases e with
    | returned u => exact .clean (g3.toP hc)
    | _ => exact g3.elim
  · cases e with
    | panicked chain =>
      obtain ⟨u, h1, h2⟩ := g3
      exact ⟨u, h1, .clean (h2.toP hc)⟩
    | _ => exact g3.elim
theorem done_trans {K K1 : KS} {h : H} {bs1 : List AB} {w : World} (g : Goes K h.bs w K1 bs1 w) {r : AR} {h' : H} {e : Ending} {w' : World} (hd : DoneR K1 { h with bs := bs1 } w r h' e w') : DoneR K h w r h' e w' := by
  obtain ⟨K', g1, g2, g3⟩ := hd
  exact ⟨K', g.trans g1, g2, g3⟩
/-- A call, one deeper. -/
theorem step0_sound (hE : EnvOk E) (hs : SumOk E) {call : CallF} (hc : CallSound E.P call) {jmp : JumpF} (hj : JumpSound E.P jmp) : CallSound E.P (stepCall0 E call jmp) := by
  intro from_ fv as_ h r h' K w fval vals hev hr he hf ha
  unfold stepCall0 at hev
  split at hev
  · rename_i f x y
    dsimp only at hev
    obtain ⟨va, vb, rfl, hxa, hyb⟩ := hf.inv_fn
    -- the arguments, sealed
    have main : ∀ (as1 : List AV) (bs1 : List AB) (K1 : KS), Goes K h.bs w K1 bs1 w → EscR { h with bs := bs1 } → RepVL K1 bs1 w.heap as1 vals →
        (if E.ok f then
          match E.P.funcs[f]? with
          | none => none
          | some fn => match fn.body with
            | none => none
            | some c =>
              if cleanL (x ++ as1 ++ y) && !E.raw from_ f then
                match E.sum f (x ++ as1 ++ y) with
                | some v => if v.clean then some (AR.ret v, ({ h with bs := bs1 } : H)) else none
                | none =>
                match evBody E call jmp false f fn c (x ++ as1 ++ y) ⟨[], []⟩ with
                | some (.ret v, _) => if v.clean then some (.ret v, { h with bs := bs1 }) else none
                | some (.panic v, _) => if v.clean then some (.panic v, { h with bs := bs1 }) else none
                | none => none
              else evBody E call jmp (E.raw from_ f) f fn c (x ++ as1 ++ y) { h with bs := bs1 }
        else none) = some (r, h') → MCall E.P (.func (.func f) va.toArray vb.toArray) vals.toArray w (DoneR K h w r h') := by
      intro as1 bs1 K1 g1 e1 ha1 hev
      split at hev
      · rename_i hok
        have hargs : RepVL K1 bs1 w.heap (x ++ as1 ++ y) (va ++ vals ++ vb) := ((RepVL.mono (g1.lat hr) hxa).app ha1).app (RepVL.mono (g1.lat hr) hyb)
        have hve : va.toArray ++ vals.toArray ++ vb.toArray = (va ++ vals ++ vb).toArray := by simp
        refine .inl ⟨f, va.toArray, vb.toArray, rfl, hE.ok f hok _ _, ?_⟩
        rw [hve]
        split at hev
        · cases hev
        · rename_i fn hfn
          split at hev
          · cases hev
          · rename_i c hbody
            split at hev
            · rename_i hcl
              simp only [Bool.and_eq_true] at hcl
              have hargs0 : RepVL K1 [] w.heap (x ++ as1 ++ y) (va ++ vals ++ vb) := .of_clean (hargs.toP hcl.1)
              split at hev
              · rename_i v hsum
                split at hev
                · rename_i hv
                  cases hev
                  refine (hs f _ v hsum hv hok K1 w _ (hr_nil g1.hr) hargs0).mono fun e w' hd => ?_
                  exact done_trans g1 (done_clean g1.hr e1 (.inl ⟨v, rfl, hv, rfl⟩) hd)
                · cases hev
              · split at hev
                · rename_i v hx hb
                  split at hev
                  · rename_i hv
                    cases hev
                    refine (body_sound hE hc hj hfn hbody hb (hr_nil g1.hr) esc_nil hargs0).mono fun e w' hd => ?_
                    exact done_trans g1 (done_clean g1.hr e1 (.inl ⟨v, rfl, hv, rfl⟩) hd)
                  · cases hev
                · rename_i v hx hb
                  split at hev
                  · rename_i hv
                    cases hev
                    refine (body_sound hE hc hj hfn hbody hb (hr_nil g1.hr) esc_nil hargs0).mono fun e w' hd => ?_
                    exact done_trans g1 (done_clean g1.hr e1 (.inr ⟨v, rfl, hv, rfl⟩) hd)
                  · cases hev
                · cases hev
            · exact (body_sound hE hc hj hfn hbody hev g1.hr e1 hargs).mono fun e w' hd => done_trans g1 hd
      · cases hev
    cases hraw : E.raw from_ f with
    | true =>
      rw [hraw] at hev main
      simp only [if_true] at hev
      exact main as_ h.bs K (Goes.refl hr) he ha hev
    | false =>
      rw [hraw] at hev main
      simp only [Bool.false_eq_true, if_false] at hev
      obtain ⟨K1, s1, s2⟩ := argsA_sound hr as_ ha
      exact main _ _ K1 s1.goes (s1.top.esc he) s2 hev
  · rename_i b
    exact yield_sound hE hc hj hev hr he ha hf
  · cases hev
/-- What ran on a heap of its own, of values that were lent. -/
theorem lent_goes {K K1 : KS} {J : Nat → Prop} {bs bs1 : List AB} {w w' : World} (hr : HR K bs w.heap) (hg : Goes { K with I := J } [] w K1 bs1 w') : Goes K bs w K bs w' := by
  have hno : ∀ c, ¬ Img { K with I := J } [] c := fun c hc => by
    obtain ⟨b, x, hx, _⟩ := hc
    simp at hx
  have htr : Tr K bs w.heap K bs w'.heap :=
    { size := hg.tr.size
      keep := fun c hc _ => hg.tr.keep c hc (hno c)
      imono := fun _ h => h
      inew := fun _ h => .inl h
      img := fun c hc => .inl hc
      le := fun b x' _ hx hl => ⟨x', hx, .inr ⟨hl, kin_refl hl, Nat.le_refl _, fun _ => ⟨rfl, rfl⟩⟩⟩
      void := fun b x' _ hx hv => ⟨x', hx, hv⟩
      len := Nat.le_refl _ }
  refine ⟨htr, ⟨hr.inj, ?_, fun c hc => Nat.lt_of_lt_of_le (hr.ilt c hc) hg.tr.size, hr.wr, hr.nwr⟩, hg.os, hg.tape, hg.output⟩
  intro b x hx hl
  obtain ⟨o, ho, hR⟩ := hr.obj b x hx hl
  exact ⟨o, (hg.tr.keep _ (hr.lt b x hx hl) (hno _)).trans ho, hR.mono (htr.lat hr)⟩
theorem clean_app {a b c : List AV} (h : cleanL (a ++ b ++ c) = true) : cleanL a = true ∧ cleanL b = true ∧ cleanL c = true := by
  have key : ∀ a b : List AV, cleanL (a ++ b) = true → cleanL a = true ∧ cleanL b = true := by
    intro a b h
    induction a with
    | nil => exact ⟨rfl, h⟩
    | cons v r ih =>
      rw [List.cons_append, cleanL, Bool.and_eq_true] at h
      rw [cleanL, Bool.and_eq_true]
      exact ⟨⟨h.1, (ih h.2).1⟩, (ih h.2).2⟩
  obtain ⟨h1, h2⟩ := key _ _ h
  exact ⟨(key _ _ h1).1, (key _ _ h1).2, h2⟩
theorem step_sound (hE : EnvOk E) (hs : SumOk E) {call : CallF} (hc : CallSound E.P call) {jmp : JumpF} (hj : JumpSound E.P jmp) : CallSound E.P (stepCall E call jmp) := by
  have h0 := step0_sound hE hs hc hj
  intro from_ fv as_ h r h' K w fval vals hev hr he hf ha
  unfold stepCall at hev
  split at hev
  · rename_i f x y
    split at hev
    · split at hev
      · rename_i hcl
        split at hev
        · rename_i v hx hst
          split at hev
          · rename_i hfl
            cases hev
            obtain ⟨va, vb, rfl, hxa, hyb⟩ := hf.inv_fn
            obtain ⟨c1, c2, c3⟩ := clean_app hcl
            have hJ : HR { K with I := fun c => c < w.heap.size } [] w.heap :=
              ⟨fun b b' x x' h => by simp at h, fun b x h => by simp at h, fun c hc => hc, fun b x h => by simp at h, fun b c i h => by simp at h⟩
            have hm : ∀ c, K.I c → c < w.heap.size := hr.ilt
            have hf' : RepV { K with I := fun c => c < w.heap.size } [] w.heap (.fn f x y) (.func (.func f) va.toArray vb.toArray) :=
              .clean (.fn ((hxa.toP c1).mono hm fun _ _ => rfl) ((hyb.toP c3).mono hm fun _ _ => rfl))
            have ha' : RepVL { K with I := fun c => c < w.heap.size } [] w.heap (lendL 4 h.bs as_) vals := .of_clean (lendL_sound hr 4 as_ vals ha c2)
            refine (h0 from_ _ _ _ _ _ _ w _ vals hst hJ esc_nil hf' ha').mono fun e w' hd => ?_
            obtain ⟨K', g1, g2, g3⟩ := hd
            refine ⟨K, lent_goes hr g1, he, ?_⟩
            cases e with
            | returned u => exact .clean ((RepV.toP g3 (flat_clean v hfl)).flat hfl)
            | _ => exact g3.elim
          · cases hev
        · cases hev
      · exact h0 from_ _ as_ h r h' K w fval vals hev hr he hf ha
    · exact h0 from_ _ as_ h r h' K w fval vals hev hr he hf ha
  · exact h0 from_ _ as_ h r h' K w fval vals hev hr he hf ha

theorem none_sound (P : Program) : CallSound P (fun _ _ _ _ => none) := by
  intro from_ fv as_ h r h' K w fval vals hev
  cases hev
theorem all_sound (hE : EnvOk E) (hs : SumOk E) : ∀ n, CallSound E.P (evAll E n).1 ∧ JumpSound E.P (evAll E n).2
  | 0 => ⟨none_sound _, fun _ _ _ _ _ _ _ _ _ _ _ _ h => by cases h⟩
  | n + 1 => by
    obtain ⟨h1, h2⟩ := all_sound hE hs n
    exact ⟨step_sound hE hs h1 h2, fun ro rd fid c hrd => code_sound hE h1 h2 hrd fid c⟩
/-- THE ENGINE: what the abstract machine says of a call, the machine does. -/
theorem evCall_sound (hE : EnvOk E) (hs : SumOk E) (n : Nat) : CallSound E.P (evCall E n) := (all_sound hE hs n).1
end
end Go.Proofs.Ytnkeijebkpjdgaa.Ab
/- The engine, twenty-fourth text: what holds behind some code, walked with letters among the values. -/
namespace Go.Proofs.Ytnkeijebkpjdgaa.Ab
open Go

/-! Values laid open for what is next. -/
def RT.getK : RT → Nat → (AV → Prop) → Prop
  | .leaf, _, K => K .hole
  | .node v l r, n, K => bif Nat.beq n 1 then K v else bif Nat.beq (n % 2) 0 then l.getK (n / 2) K else r.getK (n / 2) K
theorem RT.getK_eq : ∀ (t : RT) (n : Nat) (K : AV → Prop), t.getK n K = K (t.get n)
  | .leaf, _, _ => rfl
  | .node v l r, n, K => by
    simp only [RT.getK, RT.get]
    cases Nat.beq n 1 <;> cases Nat.beq (n % 2) 0 <;> simp only [cond_true, cond_false] <;> first | rfl | exact RT.getK_eq _ _ K
def RT.putK (v : AV) : RT → Nat → (RT → Prop) → Prop
  | .leaf, _, K => K .leaf
  | .node x l r, n, K => bif Nat.beq n 1 then K (.node v l r) else bif Nat.beq (n % 2) 0 then l.putK v (n / 2) (fun l' => K (.node x l' r)) else r.putK v (n / 2) (fun r' => K (.node x l r'))
theorem RT.putK_eq (v : AV) : ∀ (t : RT) (n : Nat) (K : RT → Prop), t.putK v n K = K (t.put v n)
  | .leaf, _, _ => rfl
  | .node x l r, n, K => by
    simp only [RT.putK, RT.put]
    cases Nat.beq n 1 <;> cases Nat.beq (n % 2) 0 <;> simp only [cond_true, cond_false] <;> first | rfl | exact RT.putK_eq v _ _ _
def RG.putK : RG → Nat → AV → (RG → Prop) → Prop
  | ⟨n, t⟩, i, v, K => bif Nat.blt i n then t.putK v (i + 1) (fun t => K ⟨n, t⟩) else K ⟨n, t⟩
theorem RG.putK_eq (r : RG) (i : Nat) (v : AV) (K : RG → Prop) : r.putK i v K = K (r.put i v) := by
  obtain ⟨n, t⟩ := r
  unfold RG.putK RG.put
  dsimp only
  cases Nat.blt i n <;> simp only [cond_true, cond_false, RT.putK_eq]
def putTK (r : RG) (d : Option Tmp) (v : AV) (K : RG → Prop) : Prop :=
  match d with
  | some d => r.putK d v K
  | none => K r
theorem putTK_eq (r : RG) (d : Option Tmp) (v : AV) (K : RG → Prop) : putTK r d v K = K (putT r d v) := by
  cases d with
  | none => rfl
  | some d => exact RG.putK_eq r d v K
def listK {α : Type} : List α → (List α → Prop) → Prop
  | [], K => K []
  | x :: l, K => listK l fun l' => K (x :: l')
theorem listK_eq {α : Type} : ∀ (l : List α) (K : List α → Prop), listK l K = K l
  | [], _ => rfl
  | _ :: l, _ => listK_eq l _
/-- How long a list is, as a number. -/
def lenK {α : Type} : List α → (Nat → Prop) → Prop
  | [], K => K 0
  | _ :: l, K => lenK l fun n => K (n + 1)
theorem lenK_eq {α : Type} : ∀ (l : List α) (K : Nat → Prop), lenK l K = K l.length
  | [], _ => rfl
  | _ :: l, _ => lenK_eq l _
/-- The value's outmost sign. -/
def AV.force (v : AV) (K : AV → Prop) : Prop :=
  match v with
  | .hole => K .hole
  | .bool b => K (.bool b)
  | .int k n => K (.int k n)
  | .str s => K (.str s)
  | .ptr0 => K .ptr0
  | .sl0 => K .sl0
  | .map0 => K .map0
  | .fn0 => K .fn0
  | .ifc0 => K .ifc0
  | .ref b o v => K (.ref b o v)
  | .vref c o => K (.vref c o)
  | .sl c n t => K (.sl c n t)
  | .rsl b o n c v => K (.rsl b o n c v)
  | .mref b => K (.mref b)
  | .fn f a b => K (.fn f a b)
  | .yc b => K (.yc b)
  | .ifc t v => K (.ifc t v)
  | .agg c => listK c fun c => K (.agg c)
  | .tup c => listK c fun c => K (.tup c)
theorem AV.force_eq (v : AV) (K : AV → Prop) : v.force K = K v := by cases v <;> first | rfl | exact listK_eq _ _
/-- The heap behind an operation, its blocks laid open. -/
def H.appK : H → Nat → WL → (H → Prop) → Prop
  | ⟨bs, esc⟩, _, .none, K => K ⟨bs, esc⟩
  | ⟨bs, esc⟩, _, .put b off vs, K => match bs[b]? with
    | some (.cells c i) => listK (splice c off vs) fun c' => listK (bs.set b (.cells c' i)) fun bs' => listK (if topL vs ≤ b + 1 then esc else (b, topL vs) :: esc) fun e => K ⟨bs', e⟩
    | _ => K ⟨bs, esc⟩
  | ⟨bs, esc⟩, nid, w, K => listK (H.app ⟨bs, esc⟩ nid w).bs fun bs' => listK (H.app ⟨bs, esc⟩ nid w).esc fun e => K ⟨bs', e⟩
theorem H.appK_eq (h : H) (nid : Nat) (w : WL) (K : H → Prop) : h.appK nid w K = K (h.app nid w) := by
  obtain ⟨bs, esc⟩ := h
  cases w with
  | none => rfl
  | put b off vs =>
    simp only [H.appK, H.app, listK_eq]
    cases hb : bs[b]? with
    | none => rfl
    | some x => cases x <;> rfl
  | new x => simp only [H.appK, listK_eq]
  | blk b x => simp only [H.appK, listK_eq]

/-- How an operation goes: what it reads, hands back, does. -/
def runK : AM Out → List AB → (List RL → AV → WL → Prop) → Prop
  | .ret (v, w), _, K => v.force fun v => K [] v w
  | .fail, _, _ => False
  | .cells b off n k, h, K => match h[b]? with
    | some (.cells c _) => if off + n ≤ c.length then runK (k ((c.drop off).take n)) h fun r => K (.cells b off n :: r) else False
    | _ => False
  | .cell b off k, h, K => match h[b]? with
    | some (.cells c _) => match c[off]? with
      | some v => runK (k v) h fun r => K (.cells b off 1 :: r)
      | none => False
    | _ => False
  | .info b k, h, K => match h[b]? with
    | some (.cells c i) => runK (k i c.length) h fun r => K (.info b :: r)
    | _ => False
  | .blk b k, h, K => match h[b]? with
    | some x => runK (k x) h fun r => K (.blk b :: r)
    | none => False
theorem runK_sound : ∀ (m : AM Out) (h : List AB) (K : List RL → AV → WL → Prop), runK m h K → ∃ v w, m.run h = some (v, w) ∧ K (m.reads h) v w
  | .ret (v, w), h, K, hk => ⟨v, w, rfl, by have := hk; unfold runK at this; rwa [AV.force_eq] at this⟩
  | .fail, _, _, hk => hk.elim
  | .cells b off n k, h, K, hk => by
    unfold runK at hk
    split at hk
    · rename_i c i hb
      split at hk
      · rename_i hl
        obtain ⟨v, w, h1, h2⟩ := runK_sound _ h _ hk
        exact ⟨v, w, by simp only [AM.run, hb, if_pos hl]; exact h1, by simp only [AM.reads, hb]; exact h2⟩
      · exact hk.elim
    · exact hk.elim
  | .cell b off k, h, K, hk => by
    unfold runK at hk
    split at hk
    · rename_i c i hb
      split at hk
      · rename_i x hx
        obtain ⟨v, w, h1, h2⟩ := runK_sound _ h _ hk
        exact ⟨v, w, by simp only [AM.run, hb, hx]; exact h1, by simp only [AM.reads, hb, hx]; exact h2⟩
      · exact hk.elim
    · exact hk.elim
  | .info b k, h, K, hk => by
    unfold runK at hk
    split at hk
    · rename_i c i hb
      obtain ⟨v, w, h1, h2⟩ := runK_sound _ h _ hk
      exact ⟨v, w, by simp only [AM.run, hb]; exact h1, by simp only [AM.reads, hb]; exact h2⟩
    · exact hk.elim
  | .blk b k, h, K, hk => by
    unfold runK at hk
    split at hk
    · rename_i x hb
      obtain ⟨v, w, h1, h2⟩ := runK_sound _ h _ hk
      exact ⟨v, w, by simp only [AM.run, hb]; exact h1, by simp only [AM.reads, hb]; exact h2⟩
    · exact hk.elim

/-- Is an operation wanted? -/
def wantK (ops : Array Oper) (tmps : RG) (o : Oper) (Y N : Prop) : Prop :=
  match o.guard with
  | none => Y
  | some (j, want) => match (ops[j]?).bind (·.dst) with
    | some d => tmps.t.getK (d + 1) fun v => match v with
      | .bool b => bif b then (bif want then Y else N) else (bif want then N else Y)
      | .hole => False
      | _ => N
    | none => N
theorem wantK_sound {ops : Array Oper} {tmps : RG} {o : Oper} {Y N : Prop} (h : wantK ops tmps o Y N) : (wantedA ops tmps o = some true ∧ Y) ∨ (wantedA ops tmps o = some false ∧ N) := by
  unfold wantK at h
  unfold wantedA
  split at h
  · rename_i hg
    simp only [hg]
    exact .inl ⟨trivial, h⟩
  · rename_i j want hg
    simp only [hg]
    split at h
    · rename_i d hd
      simp only [hd]
      rw [RT.getK_eq] at h
      have e : tmps.t.get (d + 1) = tmps.get d := rfl
      rw [e] at h
      split at h
      · rename_i b hb
        simp only [hb]
        cases b <;> cases want <;> simp only [cond_true, cond_false] at h
        · exact .inl ⟨rfl, h⟩
        · exact .inr ⟨rfl, h⟩
        · exact .inr ⟨rfl, h⟩
        · exact .inl ⟨rfl, h⟩
      · exact h.elim
      · rename_i x hb hh
        split
        · rename_i b hb'
          exact (hb b hb').elim
        · rename_i hh'
          exact (hh hh').elim
        · exact .inr ⟨rfl, h⟩
    · rename_i hd
      simp only [hd]
      exact .inr ⟨trivial, h⟩

def opndsK (tmps : RG) : List Operand → (List AV → Prop) → Prop
  | [], K => K []
  | x :: l, K => (opnd tmps x).force fun v => opndsK tmps l fun vs => K (v :: vs)
theorem opndsK_eq (tmps : RG) : ∀ (l : List Operand) (K : List AV → Prop), opndsK tmps l K = K (l.map (opnd tmps))
  | [], _ => rfl
  | x :: l, K => by
    simp only [opndsK, AV.force_eq, List.map_cons]
    exact opndsK_eq tmps l _

/-! An operation's operands, read once. -/
def lookT : List (Nat × AV) → Nat → AV
  | [], _ => .hole
  | (k, v) :: l, t => bif Nat.beq k t then v else lookT l t
def lookA (l : List (Nat × AV)) : Operand → AV
  | .tmp t => lookT l t
  | .const v => AV.ofValue v
  | .global _ => .hole
  | .func f => .fn f [] []
def readK (t : RT) : List Operand → List (Nat × AV) → (List (Nat × AV) → Prop) → Prop
  | [], acc, K => K acc
  | .tmp i :: l, acc, K => t.getK (i + 1) fun v => readK t l ((i, v) :: acc) K
  | _ :: l, acc, K => readK t l acc K
theorem readK_eq (n : Nat) (t : RT) : ∀ (ops : List Operand) (acc : List (Nat × AV)) (K : List (Nat × AV) → Prop), (∀ i v, (i, v) ∈ acc → v = opnd ⟨n, t⟩ (.tmp i)) → readK t ops acc K →
    ∃ l, K l ∧ (∀ i v, (i, v) ∈ l → v = opnd ⟨n, t⟩ (.tmp i)) ∧ (∀ i, (Operand.tmp i ∈ ops ∨ ∃ v, (i, v) ∈ acc) → ∃ v, (i, v) ∈ l)
  | [], acc, K, ha, h => ⟨acc, h, ha, fun i hi => by
      rcases hi with hi | hi
      · cases hi
      · exact hi⟩
  | .tmp i :: r, acc, K, ha, h => by
    unfold readK at h
    rw [RT.getK_eq] at h
    obtain ⟨l, h1, h2, h3⟩ := readK_eq n t r _ K (fun j v hj => by
      rcases List.mem_cons.1 hj with hj | hj
      · cases hj; rfl
      · exact ha j v hj) h
    refine ⟨l, h1, h2, fun j hj => h3 j ?_⟩
    rcases hj with hj | ⟨v, hj⟩
    · rcases List.mem_cons.1 hj with hj | hj
      · cases hj
        exact .inr ⟨_, List.mem_cons_self ..⟩
      · exact .inl hj
    · exact .inr ⟨v, List.mem_cons_of_mem _ hj⟩
  | .const c :: r, acc, K, ha, h => by
    unfold readK at h
    obtain ⟨l, h1, h2, h3⟩ := readK_eq n t r acc K ha h
    refine ⟨l, h1, h2, fun j hj => h3 j (hj.imp (fun hj => ?_) id)⟩
    rcases List.mem_cons.1 hj with hj | hj
    · cases hj
    · exact hj
  | .global c :: r, acc, K, ha, h => by
    unfold readK at h
    obtain ⟨l, h1, h2, h3⟩ := readK_eq n t r acc K ha h
    refine ⟨l, h1, h2, fun j hj => h3 j (hj.imp (fun hj => ?_) id)⟩
    rcases List.mem_cons.1 hj with hj | hj
    · cases hj
    · exact hj
  | .func c :: r, acc, K, ha, h => by
    unfold readK at h
    obtain ⟨l, h1, h2, h3⟩ := readK_eq n t r acc K ha h
    refine ⟨l, h1, h2, fun j hj => h3 j (hj.imp (fun hj => ?_) id)⟩
    rcases List.mem_cons.1 hj with hj | hj
    · cases hj
    · exact hj
theorem lookT_of {f : Nat → AV} : ∀ (l : List (Nat × AV)) (i : Nat), (∀ i v, (i, v) ∈ l → v = f i) → (∃ v, (i, v) ∈ l) → lookT l i = f i
  | [], _, _, ⟨v, h⟩ => by cases h
  | (k, v) :: l, i, hl, ⟨u, h⟩ => by
    unfold lookT
    cases hb : Nat.beq k i with
    | true =>
      have := Nat.eq_of_beq_eq_true hb
      subst this
      exact hl _ _ (List.mem_cons_self ..)
    | false =>
      rw [cond_false]
      refine lookT_of l i (fun j w hj => hl j w (List.mem_cons_of_mem _ hj)) ?_
      rcases List.mem_cons.1 h with h | h
      · cases h
        simp at hb
      · exact ⟨u, h⟩
/-- An operation's outcome is that of what its operands are. -/
theorem look_op {P : Program} {flat : TypeId → Option (List Nat)} {nid : Nat} {op : Op} {n : Nat} {t : RT} {K : AM Out → Prop} (h : readK t op.operands.toList [] fun l => K (evOp P flat nid op (lookA l))) : K (evOp P flat nid op (opnd ⟨n, t⟩)) := by
  obtain ⟨l, h1, h2, h3⟩ := readK_eq n t _ _ _ (fun i v hv => by cases hv) h
  have e : evOp P flat nid op (lookA l) = evOp P flat nid op (opnd ⟨n, t⟩) := by
    refine evOp_congr fun x hx => ?_
    cases x with
    | tmp i =>
      show lookT l i = opnd ⟨n, t⟩ (.tmp i)
      exact lookT_of (f := fun i => opnd ⟨n, t⟩ (.tmp i)) l i h2 (h3 i (.inl (by simpa using hx)))
    | _ => rfl
  rw [← e]
  exact h1

/-- What is built of some values. -/
def bldA (P : Program) (t : TypeId) (vs : List (Nat × AV)) : AM Out := match zeroCellsA P t, P.underlying t with
    | some z, some (.struct fs) => match fs.toList.mapM (fun f => (P.info? f.type).map fun i => (f.offset, i.size)) with
      | some places => pur ((fillA (places.toArray[·]?) z vs).map AV.agg)
      | none => .fail
    | some z, some (.array _ e) => match szOf P e with
      | some n => pur ((fillA (fun i => some (i * n, n)) z vs).map AV.agg)
      | none => .fail
    | _, _ => .fail
def lookTK : List (Nat × AV) → Nat → (AV → Prop) → Prop
  | [], _, K => K .hole
  | (k, v) :: l, t, K => bif Nat.beq k t then K v else lookTK l t K
theorem lookTK_eq : ∀ (l : List (Nat × AV)) (t : Nat) (K : AV → Prop), lookTK l t K = K (lookT l t)
  | [], _, _ => rfl
  | (k, v) :: l, t, K => by
    simp only [lookTK, lookT, lookTK_eq l]
    cases Nat.beq k t <;> rfl
def partsK (l : List (Nat × AV)) : List (Nat × Operand) → (List (Nat × AV) → Prop) → Prop
  | [], K => K []
  | (i, .tmp t) :: r, K => lookTK l t fun v => partsK l r fun vs => K ((i, v) :: vs)
  | (i, x) :: r, K => partsK l r fun vs => K ((i, lookA l x) :: vs)
theorem partsK_eq (l : List (Nat × AV)) : ∀ (ps : List (Nat × Operand)) (K : List (Nat × AV) → Prop), partsK l ps K = K (ps.map fun p => (p.1, lookA l p.2))
  | [], _ => rfl
  | (i, .tmp t) :: r, K => by simp only [partsK, lookTK_eq, partsK_eq l r, List.map_cons]; rfl
  | (i, .const _) :: r, K => by simp only [partsK, partsK_eq l r, List.map_cons]
  | (i, .global _) :: r, K => by simp only [partsK, partsK_eq l r, List.map_cons]
  | (i, .func _) :: r, K => by simp only [partsK, partsK_eq l r, List.map_cons]
def valsK (l : List (Nat × AV)) : List Operand → (List AV → Prop) → Prop
  | [], K => K []
  | .tmp t :: r, K => lookTK l t fun v => valsK l r fun vs => K (v :: vs)
  | x :: r, K => valsK l r fun vs => K (lookA l x :: vs)
theorem valsK_eq (l : List (Nat × AV)) : ∀ (ps : List Operand) (K : List AV → Prop), valsK l ps K = K (ps.map (lookA l))
  | [], _ => rfl
  | .tmp t :: r, K => by simp only [valsK, lookTK_eq, valsK_eq l r, List.map_cons]; rfl
  | .const _ :: r, K => by simp only [valsK, valsK_eq l r, List.map_cons]
  | .global _ :: r, K => by simp only [valsK, valsK_eq l r, List.map_cons]
  | .func _ :: r, K => by simp only [valsK, valsK_eq l r, List.map_cons]
/-- One operand. -/
def opK1 (l : List (Nat × AV)) : Operand → (AV → Prop) → Prop
  | .tmp t, K => lookTK l t K
  | x, K => K (lookA l x)
theorem opK1_eq (l : List (Nat × AV)) (x : Operand) (K : AV → Prop) : opK1 l x K = K (lookA l x) := by
  cases x with
  | tmp t => exact lookTK_eq l t K
  | _ => rfl
/-- An operation, what is built of its operands laid open. -/
def evOpK (P : Program) (flat : TypeId → Option (List Nat)) (nid : Nat) (op : Op) (l : List (Nat × AV)) (K : AM Out → Prop) : Prop :=
  match op with
  | .build t ps => partsK l ps.toList fun vs => K (bldA P t vs)
  | .makeFunc (.func f) a b => valsK l a.toList fun va => valsK l b.toList fun vb => K (.ret (.fn f va vb, .none))
  | .lookup t m k ok => opK1 l m fun m' => opK1 l k fun k' => K (lookupA P t m' k' ok)
  | .mapUpdate t m k v => opK1 l m fun m' => opK1 l k fun k' => opK1 l v fun v' => K (mapUpdateA P t m' k' v')
  | op => K (evOp P flat nid op (lookA l))
theorem evOpK_eq (P : Program) (flat : TypeId → Option (List Nat)) (nid : Nat) (op : Op) (l : List (Nat × AV)) (K : AM Out → Prop) : evOpK P flat nid op l K = K (evOp P flat nid op (lookA l)) := by
  unfold evOpK
  split
  · rw [partsK_eq]
    rfl
  · rw [valsK_eq, valsK_eq]
    rfl
  · rw [opK1_eq, opK1_eq]
    rfl
  · rw [opK1_eq, opK1_eq, opK1_eq]
    rfl
  · rfl

section
variable (E : Env) (call : CallF) (fid : FuncId)
/-- What a call hands back. -/
def callK (f : AV) (as_ : List AV) (h : H) (K : AV → H → Prop) : Prop := ∃ v h', call fid f as_ h = some (.ret v, h') ∧ K v h'
def operK (o : Oper) : ST → (ST → Prop) → Prop
  | ⟨⟨n, t⟩, ⟨bs, esc⟩⟩, K => match o.op with
    | .call { callee := .value f, args, .. } => (opnd ⟨n, t⟩ f).force fun f => opndsK ⟨n, t⟩ args.toList fun vs => callK call fid f vs ⟨bs, esc⟩ fun v h' => putTK ⟨n, t⟩ o.dst v fun t => K ⟨t, h'⟩
    | .panic _ => False
    | op => lenK bs fun nid => readK t op.operands.toList [] fun l => evOpK E.P E.flat nid op l fun m => runK m bs fun _ v w => H.appK ⟨bs, esc⟩ nid w fun h' => putTK ⟨n, t⟩ o.dst v fun t => K ⟨t, h'⟩
theorem operK_sound {o : Oper} {s : ST} {K : ST → Prop} (h : operK E call fid o s K) : ∃ s', evOper E call fid o s = .ok s' ∧ K s' := by
  obtain ⟨⟨n, t⟩, bs, esc⟩ := s
  unfold operK at h
  unfold evOper
  dsimp only at h ⊢
  split at h
  · rename_i f args ts hop
    rw [AV.force_eq, opndsK_eq] at h
    obtain ⟨v, h', h1, h2⟩ := h
    rw [putTK_eq] at h2
    simp only [hop, h1]
    exact ⟨_, rfl, h2⟩
  · exact h.elim
  · rename_i op hc hp
    rw [lenK_eq] at h
    simp only [evOpK_eq] at h
    have h := look_op (n := n) (K := fun m => runK m bs _) h
    obtain ⟨v, w, h1, h2⟩ := runK_sound _ _ _ h
    rw [H.appK_eq, putTK_eq] at h2
    split
    · rename_i f args ts hop
      exact (hc f args ts hop).elim
    · rename_i x hop
      exact (hp x hop).elim
    · simp only [h1]
      exact ⟨_, rfl, h2⟩
def opsK (ops : Array Oper) : List Oper → ST → (ST → Prop) → Prop
  | [], s, K => K s
  | o :: r, ⟨tmps, h⟩, K => wantK ops tmps o (operK E call fid o ⟨tmps, h⟩ fun s' => opsK ops r s' K) (putTK tmps o.dst (.tup []) fun t => opsK ops r ⟨t, h⟩ K)
theorem opsK_sound {ops : Array Oper} : ∀ (l : List Oper) (s : ST) (K : ST → Prop), opsK E call fid ops l s K → ∃ s', evOps E call fid ops l s = some (.normal, s') ∧ K s'
  | [], s, K, h => ⟨s, rfl, h⟩
  | o :: l, ⟨tmps, hh⟩, K, h => by
    unfold opsK at h
    rcases wantK_sound h with ⟨hw, h⟩ | ⟨hw, h⟩
    · obtain ⟨s1, h1, h2⟩ := operK_sound E call fid h
      obtain ⟨s', h3, h4⟩ := opsK_sound l s1 K h2
      exact ⟨s', by simp only [evOps, hw, h1]; exact h3, h4⟩
    · rw [putTK_eq] at h
      obtain ⟨s', h3, h4⟩ := opsK_sound l _ K h
      exact ⟨s', by simp only [evOps, hw]; exact h3, h4⟩

/-! Regions that draw their order. -/
def recCallK (f : AV) (as_ : List AV) (h : H) (K : Rec → Prop) : Prop :=
  match f with
  | .fn g x y => bif cleanL (x ++ as_ ++ y) && !E.raw fid g then callK call fid (.fn g x y) as_ ⟨[], []⟩ fun v _ => v.clean = true ∧ K ⟨[], v, .w .none⟩
    else callK call fid (.fn g x y) as_ h fun v h' => K ⟨[.all], v, .heap h'⟩
  | f' => callK call fid f' as_ h fun v h' => K ⟨[.all], v, .heap h'⟩
theorem recCallK_sound {f : AV} {as_ : List AV} {h : H} {K : Rec → Prop} (hk : recCallK E call fid f as_ h K) : ∃ c, recCall E call fid f as_ h = some c ∧ K c := by
  unfold recCallK at hk
  unfold recCall
  split at hk
  · rename_i g x y
    cases hcl : (cleanL (x ++ as_ ++ y) && !E.raw fid g) with
    | true =>
      rw [hcl, cond_true] at hk
      obtain ⟨v, h', h1, h2, h3⟩ := hk
      simp only [hcl, if_true, h1, h2]
      exact ⟨_, rfl, h3⟩
    | false =>
      rw [hcl, cond_false] at hk
      obtain ⟨v, h', h1, h2⟩ := hk
      simp only [hcl, Bool.false_eq_true, if_false, h1]
      exact ⟨_, rfl, h2⟩
  · rename_i hf
    obtain ⟨v, h', h1, h2⟩ := hk
    split
    · rename_i g x y
      exact (hf g x y rfl).elim
    · simp only [h1]
      exact ⟨_, rfl, h2⟩
def recK (ops : Array Oper) (nid : Nat) (o : Oper) : ST → (Rec → Prop) → Prop
  | ⟨⟨n, t⟩, ⟨bs, esc⟩⟩, K => wantK ops ⟨n, t⟩ o (match o.op with
    | .call { callee := .value f, args, .. } => (opnd ⟨n, t⟩ f).force fun f => opndsK ⟨n, t⟩ args.toList fun vs => recCallK E call fid f vs ⟨bs, esc⟩ K
    | .panic _ => False
    | op => match bs[nid]? with
      | some .void => readK t op.operands.toList [] fun l => evOpK E.P E.flat nid op l fun m => runK m bs fun r v w => K ⟨.blk nid :: r, v, .w w⟩
      | _ => False) (K ⟨[], .tup [], .w .none⟩)
theorem recK_sound {ops : Array Oper} {nid : Nat} {o : Oper} {s : ST} {K : Rec → Prop} (h : recK E call fid ops nid o s K) : ∃ c, recOf E call fid ops nid o s = some c ∧ K c := by
  obtain ⟨⟨n, t⟩, bs, esc⟩ := s
  unfold recK at h
  unfold recOf
  dsimp only at h ⊢
  rcases wantK_sound h with ⟨hw, h⟩ | ⟨hw, h⟩
  · simp only [hw]
    split at h
    · rename_i f args ts hop
      rw [AV.force_eq, opndsK_eq] at h
      obtain ⟨c, h1, h2⟩ := recCallK_sound E call fid h
      simp only [hop, h1]
      exact ⟨_, rfl, h2⟩
    · exact h.elim
    · rename_i op hc hp
      split at h
      · rename_i hv
        simp only [evOpK_eq] at h
        have h := look_op (n := n) (K := fun m => runK m bs fun r v w => K ⟨.blk nid :: r, v, .w w⟩) h
        obtain ⟨v, w, h1, h2⟩ := runK_sound _ _ _ h
        split
        · rename_i f args ts hop
          exact (hc f args ts hop).elim
        · rename_i x hop
          exact (hp x hop).elim
        · simp only [hv, h1]
          exact ⟨_, rfl, h2⟩
      · exact h.elim
  · simp only [hw]
    exact ⟨_, rfl, h⟩
def recAppK : Rec → Nat → Option Tmp → ST → (ST → Prop) → Prop
  | ⟨_, v, .w w⟩, nid, dst, ⟨tmps, h⟩, K => H.appK h nid w fun h' => putTK tmps dst v fun t => K ⟨t, h'⟩
  | ⟨_, v, .heap h'⟩, _, dst, ⟨tmps, _⟩, K => putTK tmps dst v fun t => K ⟨t, h'⟩
theorem recAppK_eq (r : Rec) (nid : Nat) (dst : Option Tmp) (s : ST) (K : ST → Prop) : recAppK r nid dst s K = K (r.app nid dst s) := by
  obtain ⟨rd, v, w⟩ := r
  obtain ⟨tmps, h⟩ := s
  cases w with
  | w w => simp only [recAppK, H.appK_eq, putTK_eq]; rfl
  | heap h => simp only [recAppK, putTK_eq]; rfl
def drawK (ops : Array Oper) (base : Nat) : List (Nat × Oper) → ST → (List (Nat × Rec × H) → ST → Prop) → Prop
  | [], s, K => K [] s
  | (i, o) :: r, ⟨tmps, h⟩, K => recK E call fid ops (base + i) o ⟨tmps, h⟩ fun c => recAppK c (base + i) o.dst ⟨tmps, h⟩ fun s' => drawK ops base r s' fun l s'' => K ((i, c, h) :: l) s''
theorem drawK_sound {ops : Array Oper} {base : Nat} : ∀ (l : List (Nat × Oper)) (s : ST) (K : List (Nat × Rec × H) → ST → Prop), drawK E call fid ops base l s K → ∃ L s', drawRun E call fid ops base l s = some (L, s') ∧ K L s'
  | [], s, K, h => ⟨[], s, rfl, h⟩
  | (i, o) :: r, ⟨tmps, hh⟩, K, h => by
    unfold drawK at h
    obtain ⟨c, h1, h2⟩ := recK_sound E call fid h
    rw [recAppK_eq] at h2
    obtain ⟨L, s', h3, h4⟩ := drawK_sound r _ _ h2
    exact ⟨_, s', by simp only [drawRun, h1, h3], h4⟩
def drawnK (ops : Array Oper) : ST → (ST → Prop) → Prop
  | ⟨tmps, ⟨bs, esc⟩⟩, K => lenK bs fun base => listK (bs ++ List.replicate ops.size AB.void) fun bs' => drawK E call fid ops base (ops.toList.zipIdx.map fun p => (p.2, p.1)) ⟨tmps, ⟨bs', esc⟩⟩ fun l s' =>
    (orderOk ops && drawOk ops base (Region.before ops) l) = true ∧ K s'
theorem drawnK_sound {ops : Array Oper} {s : ST} {K : ST → Prop} (h : drawnK E call fid ops s K) : ∃ s', evDrawn E call fid ops s = some (.normal, s') ∧ K s' := by
  obtain ⟨tmps, bs, esc⟩ := s
  unfold drawnK at h
  dsimp only at h
  rw [lenK_eq, listK_eq] at h
  obtain ⟨L, s', h1, h2, h3⟩ := drawK_sound E call fid _ _ _ h
  exact ⟨s', by unfold evDrawn; simp only [h1, h2, if_true], h3⟩

def RG.keepK : RG → List Nat → (RG → Prop) → Prop
  | ⟨n, _⟩, [], K => K (RG.empty n)
  | ⟨n, t⟩, k :: ks, K => t.getK (k + 1) fun v => RG.keepK ⟨n, t⟩ ks fun r => r.putK k v K
theorem RG.keepK_eq (r : RG) : ∀ (ks : List Nat) (K : RG → Prop), r.keepK ks K = K (r.keep ks)
  | [], _ => by cases r; rfl
  | k :: ks, K => by
    obtain ⟨n, t⟩ := r
    simp only [RG.keepK, RT.getK_eq, RG.keepK_eq ⟨n, t⟩ ks, RG.putK_eq]
    rfl
/-- The state at a loop's head. -/
def normK (ks : Option (List Nat)) (n : Nat) : ST → (ST → Prop) → Prop
  | ⟨tmps, ⟨bs, esc⟩⟩, K => match ks with
    | none => K ⟨tmps, ⟨bs, esc⟩⟩
    | some ks => tmps.keepK ks fun tmps' => match Nat.ble bs.length n with
      | true => K ⟨tmps', ⟨bs, esc⟩⟩
      | false => listK (ST.norm (some ks) n ⟨tmps, ⟨bs, esc⟩⟩).h.bs fun bs' => listK (ST.norm (some ks) n ⟨tmps, ⟨bs, esc⟩⟩).h.esc fun esc' => K ⟨tmps', ⟨bs', esc'⟩⟩
theorem normK_eq (ks : Option (List Nat)) (n : Nat) (s : ST) (K : ST → Prop) : normK ks n s K = K (s.norm ks n) := by
  obtain ⟨tmps, bs, esc⟩ := s
  cases ks with
  | none => rfl
  | some ks =>
    simp only [normK, RG.keepK_eq, listK_eq]
    split
    · rename_i hb
      have hb := Nat.le_of_ble_eq_true hb
      unfold ST.norm
      dsimp only
      rw [if_pos (Nat.le_trans hb (Nat.le_max_left ..))]
    · congr 1
      unfold ST.norm
      dsimp only
      split
      · rfl
      · split <;> rfl
/-- So many rounds of a loop. -/
def roundsK (f : ST → (AX → ST → Prop) → Prop) (nm : ST → (ST → Prop) → Prop) (Q : AX → ST → Prop) : Nat → ST → Prop
  | 0, _ => False
  | m + 1, s => nm s fun s => f s fun x s' => match x with
    | .normal => roundsK f nm Q m s'
    | x => Q x s'
theorem roundsK_sound {f : ST → (AX → ST → Prop) → Prop} {g : ST → Option (AX × ST)} (hf : ∀ s Q, f s Q → ∃ x s', g s = some (x, s') ∧ Q x s') {ks : Option (List Nat)} {n : Nat} {Q : AX → ST → Prop} :
    ∀ (m : Nat) (s : ST), roundsK f (normK ks n) Q m s → ∃ x s', evLoop g (ST.norm ks n) m s = some (x, s') ∧ Q x s'
  | 0, _, h => h.elim
  | m + 1, s, h => by
    unfold roundsK at h
    rw [normK_eq] at h
    obtain ⟨x, s1, h1, h2⟩ := hf _ _ h
    cases x with
    | normal =>
      obtain ⟨x, s', h3, h4⟩ := roundsK_sound hf m s1 h2
      exact ⟨x, s', by simp only [evLoop, h1]; exact h3, h4⟩
    | _ => exact ⟨_, s1, by simp only [evLoop, h1], h2⟩
/-- A loop whose state is told by a letter. -/
theorem rounds_ind {α : Type} {f : ST → (AX → ST → Prop) → Prop} {ks : Option (List Nat)} {n : Nat} {Q : AX → ST → Prop} (S : α → ST) (I : α → Prop) (μ : α → Nat)
    (step : ∀ a m, I a → (∀ a' s', I a' → μ a' < μ a → s'.norm ks n = S a' → roundsK f (normK ks n) Q m s') → f (S a) fun x s' => match x with
      | .normal => roundsK f (normK ks n) Q m s'
      | x => Q x s') : ∀ (m : Nat) (a : α) (s : ST), I a → μ a < m → s.norm ks n = S a → roundsK f (normK ks n) Q m s := by
  intro m
  induction m with
  | zero => intro a s _ h _; omega
  | succ m ih =>
    intro a s hI hμ hs
    unfold roundsK
    rw [normK_eq, hs]
    exact step a m hI fun a' s' h1 h2 h3 => ih a' s' h1 (by omega) h3
theorem evLoop_more {g : ST → Option (AX × ST)} {nm : ST → ST} {r : AX × ST} : ∀ (m k : Nat) (s : ST), m ≤ k → evLoop g nm m s = some r → evLoop g nm k s = some r
  | 0, _, _, _, h => by simp [evLoop] at h
  | m + 1, k, s, hk, h => by
    obtain ⟨k, rfl⟩ : ∃ j, k = j + 1 := ⟨k - 1, by omega⟩
    simp only [evLoop] at h ⊢
    cases hg : g (nm s) with
    | none => rw [hg] at h; exact h
    | some p =>
      obtain ⟨x, s'⟩ := p
      rw [hg] at h
      cases x with
      | normal => exact evLoop_more m k s' (by omega) h
      | _ => exact h
/-- Jumps to the labels of a scope. -/
def jumpsK (jmp : Code → ST → Option (AX × ST)) (body : Code) (Q : AX → ST → Prop) (m : Nat) (l : Nat) (s : ST) : Prop := ∃ x s', evJumps jmp body m l s = some (x, s') ∧ Q x s'

/-- What holds behind some code. -/
def codeK (jmp : JumpF) (rd : Bool) : Code → ST → (AX → ST → Prop) → Prop
  | .skip, s, Q => Q .normal s
  | .region _ ops draw, s, Q => bif draw then drawnK E call fid ops s (Q .normal) else opsK E call fid ops ops.toList s (Q .normal)
  | .seq a b, s, Q => codeK jmp rd a s fun x s' => match x with
    | .normal => codeK jmp rd b s' Q
    | x => Q x s'
  | .cond c a b, ⟨tmps, h⟩, Q => match opnd tmps c with
    | .bool t => bif t then codeK jmp rd a ⟨tmps, h⟩ Q else codeK jmp rd b ⟨tmps, h⟩ Q
    | _ => False
  | .block id b, s, Q => codeK jmp rd b s fun x s' => match x with
    | .exit id' => bif Nat.beq id' id then Q .normal s' else Q (.exit id') s'
    | x => Q x s'
  | .exit id, s, Q => Q (.exit id) s
  | .label _, s, Q => Q .normal s
  | .goto l, s, Q => Q (.goto l) s
  | .ret, s, Q => Q .ret s
  | .loop b, ⟨tmps, ⟨bs, esc⟩⟩, Q => ∃ m, m ≤ E.fuel ∧ roundsK (codeK jmp rd b) (normK (E.keep fid (firstR b)) bs.length) Q m ⟨tmps, ⟨bs, esc⟩⟩
  | .scope b, s, Q => codeK jmp rd b s fun x s' => match x with
    | .goto l => jumpsK (jmp rd fid) b Q E.fuel l s'
    | x => Q x s'
  | c, s, Q => ∃ x s', evCode E call jmp rd fid c s = some (x, s') ∧ Q x s'
variable {jmp : JumpF} {rd : Bool}
theorem codeK_sound : ∀ (c : Code) (s : ST) (Q : AX → ST → Prop), codeK E call fid jmp rd c s Q → ∃ x s', evCode E call jmp rd fid c s = some (x, s') ∧ Q x s'
  | .skip, s, Q, h => ⟨_, _, rfl, h⟩
  | .region id ops draw, s, Q, h => by
    unfold codeK at h
    cases draw with
    | true =>
      obtain ⟨s', h1, h2⟩ := drawnK_sound E call fid h
      exact ⟨_, s', h1, h2⟩
    | false =>
      obtain ⟨s', h1, h2⟩ := opsK_sound E call fid _ _ _ h
      exact ⟨_, s', h1, h2⟩
  | .seq a b, s, Q, h => by
    unfold codeK at h
    obtain ⟨x, s1, h1, h2⟩ := codeK_sound a s _ h
    cases x with
    | normal =>
      obtain ⟨x', s', h3, h4⟩ := codeK_sound b s1 Q h2
      exact ⟨x', s', by simp only [evCode, h1]; exact h3, h4⟩
    | _ => exact ⟨_, s1, by simp only [evCode, h1], h2⟩
  | .cond c a b, ⟨tmps, hh⟩, Q, h => by
    unfold codeK at h
    split at h
    · rename_i t ht
      cases t with
      | true =>
        obtain ⟨x', s', h3, h4⟩ := codeK_sound a _ Q h
        exact ⟨x', s', by simp only [evCode, ht, if_true]; exact h3, h4⟩
      | false =>
        obtain ⟨x', s', h3, h4⟩ := codeK_sound b _ Q h
        exact ⟨x', s', by simp only [evCode, ht, Bool.false_eq_true, if_false]; exact h3, h4⟩
    · exact h.elim
  | .block id b, s, Q, h => by
    unfold codeK at h
    obtain ⟨x, s1, h1, h2⟩ := codeK_sound b s _ h
    cases x with
    | exit id' =>
      simp only at h2
      cases hb : Nat.beq id' id with
      | true =>
        rw [hb, cond_true] at h2
        exact ⟨_, s1, by simp only [evCode, h1, if_pos (Nat.eq_of_beq_eq_true hb)], h2⟩
      | false =>
        rw [hb, cond_false] at h2
        have hne : id' ≠ id := fun e => by subst e; simp at hb
        exact ⟨_, s1, by simp only [evCode, h1, if_neg hne], h2⟩
    | _ => exact ⟨_, s1, by simp only [evCode, h1], h2⟩
  | .exit id, s, Q, h => ⟨_, _, rfl, h⟩
  | .label l, s, Q, h => ⟨_, _, rfl, h⟩
  | .goto l, s, Q, h => ⟨_, _, rfl, h⟩
  | .ret, s, Q, h => ⟨_, _, rfl, h⟩
  | .loop b, ⟨tmps, ⟨bs, esc⟩⟩, Q, h => by
    unfold codeK at h
    obtain ⟨m, hm, h⟩ := h
    obtain ⟨x, s', h1, h2⟩ := roundsK_sound (fun s Q => codeK_sound b s Q) m _ h
    exact ⟨x, s', evLoop_more m _ _ hm h1, h2⟩
  | .rangeFunc .., s, Q, h => h
  | .scope b, s, Q, h => by
    unfold codeK at h
    obtain ⟨x, s1, h1, h2⟩ := codeK_sound b s _ h
    cases x with
    | goto l =>
      obtain ⟨x, s', h3, h4⟩ := h2
      exact ⟨x, s', by simp only [evCode, h1]; exact h3, h4⟩
    | _ => exact ⟨_, s1, by simp only [evCode, h1], h2⟩
  | .refuse m, s, Q, h => h
end

/-- Slots by their numbers. -/
def treeOf : List (Nat × AV) → RT → RT
  | [], t => t
  | (i, v) :: l, t => treeOf l (t.put v (i + 1))
def RG.of (n : Nat) (l : List (Nat × AV)) : RG := ⟨n, treeOf l (RT.mk (digs 20 n + 1))⟩
/-! Operations with letters. -/
theorem runK_ret {m : AM Out} {h : List AB} {K : List RL → AV → WL → Prop} {v : AV} {w : WL} (hm : m = .ret (v, w)) (hk : K [] v w) : runK m h K := by
  rw [hm]
  unfold runK
  rw [AV.force_eq]
  exact hk
theorem runK_if {c : Prop} [Decidable c] {a b : AM Out} {h : List AB} {K : List RL → AV → WL → Prop} (hc : c) (hk : runK a h K) : runK (if c then a else b) h K := by
  rw [if_pos hc]
  exact hk
theorem runK_cell {b off : Nat} {k : AV → AM Out} {h : List AB} {K : List RL → AV → WL → Prop} {c : List AV} {i : BI} {v : AV} (hb : h[b]? = some (.cells c i)) (hc : c[off]? = some v) (hk : runK (k v) h fun r => K (.cells b off 1 :: r)) : runK (.cell b off k) h K := by
  unfold runK
  simp only [hb, hc]
  exact hk
theorem runK_cells {b off n : Nat} {k : List AV → AM Out} {h : List AB} {K : List RL → AV → WL → Prop} {c cs : List AV} {i : BI} (hb : h[b]? = some (.cells c i)) (hl : off + n ≤ c.length) (hc : (c.drop off).take n = cs) (hk : runK (k cs) h fun r => K (.cells b off n :: r)) : runK (.cells b off n k) h K := by
  unfold runK
  simp only [hb, if_pos hl, hc]
  exact hk
theorem listK_of {α : Type} {l l' : List α} {K : List α → Prop} (h : l = l') (hk : K l') : listK l K := by
  rw [listK_eq, h]
  exact hk
section ops
variable {P : Program} {flat : TypeId → Option (List Nat)} {nid : Nat} {ρ : Operand → AV}
theorem ev_indexSl {t e : TypeId} {sz : Nat} {a b : Operand} {cells : List AV} {n : Nat} {tight : Bool} {k : IntKind} {i : Int} (ht : P.underlying t = some (.slice e)) (hs : szOf P e = some sz) (ha : ρ a = .sl cells n tight) (hb : ρ b = .int k i) (h0 : 0 ≤ i) (h1 : i < n) :
    evOp P flat nid (.indexAddr t a b) ρ = .ret (.vref cells (i.toNat * sz), .none) := by
  simp only [evOp, indexAddrA, ha, hb, ht, hs, pur]
  rw [if_pos ⟨h0, h1⟩]
theorem ev_loadV {t : TypeId} {z off : Nat} {a : Operand} {cells : List AV} {v : AV} (hg : isAggA P t = some false) (hs : szOf P t = some z) (ha : ρ a = .vref cells off) (hc : cells[off]? = some v) : evOp P flat nid (.load t a) ρ = .ret (v, .none) := by
  simp only [evOp, loadA, hg, hs, ha, hc, pur]
theorem ev_loadVA {t : TypeId} {z off : Nat} {a : Operand} {cells cs : List AV} (hg : isAggA P t = some true) (hs : szOf P t = some z) (ha : ρ a = .vref cells off) (hl : off + z ≤ cells.length) (hc : (cells.drop off).take z = cs) : evOp P flat nid (.load t a) ρ = .ret (.agg cs, .none) := by
  simp only [evOp, loadA, hg, hs, ha, hc]
  rw [if_pos hl]
theorem runK_store {t : TypeId} {z b off ver : Nat} {a v : Operand} {vs c : List AV} {i : BI} {h : List AB} {K : List RL → AV → WL → Prop} (ha : ρ a = .ref b off ver) (hv : (ρ v).toCells = some vs) (hs : szOf P t = some z) (hl : vs.length = z) (ho : oneL vs = true)
    (hb : h[b]? = some (.cells c i)) (hver : ver = verA i c.length) (hw : i.wr = true) (hn : off + z ≤ c.length) (hcl : i.cl = false ∨ cleanL vs = true) (hk : K [.info b] (.tup []) (.put b off vs)) : runK (evOp P flat nid (.store t a v) ρ) h K := by
  simp only [evOp, storeA, ha, hv, hs]
  rw [if_pos ⟨hl, ho⟩]
  unfold runK
  simp only [hb]
  rw [if_pos ⟨hver, hw, hn, hcl⟩]
  exact runK_ret rfl hk
theorem ev_makeSlice {t e : TypeId} {sz by_ : Nat} {z : List AV} {a b : Operand} {k k' : IntKind} {x y : Int} (ht : P.underlying t = some (.slice e)) (hs : szOf P e = some sz) (hb : bytesA P e = some by_) (hz : zeroCellsA P e = some z) (ha : ρ a = .int k x) (hy : ρ b = .int k' y)
    (h0 : 0 ≤ x) (h1 : x ≤ y) (h2 : y ≤ 140737488355328) (h3 : by_ * y ≤ 140737488355328) (h4 : z.length = sz) (h5 : 0 < sz) (h6 : oneL z = true) :
    evOp P flat nid (.makeSlice t a b) ρ = .ret (.rsl nid 0 x.toNat (some y.toNat) 0, .new (.cells (repCells y.toNat z) ⟨cleanL z && plainL z, sz, false, true⟩)) := by
  simp only [evOp, makeSliceA, ht, ha, hy, hs, hb, hz]
  rw [if_pos ⟨h0, h1, h2, h3, h4, h5, h6⟩]
theorem ev_indexRsl {t e : TypeId} {sz : Nat} {a b : Operand} {bb off n ver : Nat} {cap : Option Nat} {k : IntKind} {i : Int} (ht : P.underlying t = some (.slice e)) (hs : szOf P e = some sz) (ha : ρ a = .rsl bb off n cap ver) (hb : ρ b = .int k i) (h0 : 0 ≤ i) (h1 : i < n) :
    evOp P flat nid (.indexAddr t a b) ρ = .ret (.ref bb (off + i.toNat * sz) ver, .none) := by
  simp only [evOp, indexAddrA, ha, hb, ht, hs, pur]
  rw [if_pos ⟨h0, h1⟩]
/-- A slice that nobody writes, of n elements. -/
def slOk (v : AV) (n : Nat) : Prop := (v = .sl0 ∧ n = 0) ∨ ∃ c t, v = .sl c n t
theorem slOk.one {v : AV} {n : Nat} (h : slOk v n) : oneA v = true := by
  rcases h with ⟨rfl, _⟩ | ⟨c, t, rfl⟩ <;> rfl
theorem slOk.cl {v : AV} {n : Nat} (h : slOk v n) : v.clean = true := by
  rcases h with ⟨rfl, _⟩ | ⟨c, t, rfl⟩ <;> rfl
end ops

/-! What is handed back. -/
def resK (P : Program) : ST → List ResultVar → (List AV → Prop) → Prop
  | _, [], K => K []
  | ⟨tmps, h⟩, .tmp t :: r, K => tmps.t.getK (t + 1) fun v => resK P ⟨tmps, h⟩ r fun vs => K (v :: vs)
  | ⟨tmps, h⟩, .cell a t :: r, K => tmps.t.getK (a + 1) fun v => runK (loadA P t v) h.bs fun _ u _ => resK P ⟨tmps, h⟩ r fun vs => K (u :: vs)
theorem resK_sound {P : Program} : ∀ (l : List ResultVar) (s : ST) (K : List AV → Prop), resK P s l K → ∃ vs, resA P s l = some vs ∧ K vs
  | [], _, _, h => ⟨[], rfl, h⟩
  | .tmp t :: r, ⟨tmps, hh⟩, K, h => by
    unfold resK at h
    rw [RT.getK_eq] at h
    obtain ⟨vs, h1, h2⟩ := resK_sound r _ _ h
    exact ⟨_, by simp only [resA, h1, Option.map_some]; rfl, h2⟩
  | .cell a t :: r, ⟨tmps, hh⟩, K, h => by
    unfold resK at h
    rw [RT.getK_eq] at h
    obtain ⟨u, w, h1, h2⟩ := runK_sound _ _ _ h
    obtain ⟨vs, h3, h4⟩ := resK_sound r _ _ h2
    refine ⟨u :: vs, ?_, h4⟩
    have e : tmps.t.get (a + 1) = tmps.get a := rfl
    rw [e] at h1
    simp only [resA, h1, h3, Option.map_some]
/-- The blocks laid open. -/
def leaveK (raw : Bool) (n : Nat) (v : AV) (h : H) (K : AV → H → Prop) : Prop :=
  (leaveA raw n v h).1.force fun v' => listK (leaveA raw n v h).2.bs fun bs => listK (leaveA raw n v h).2.esc fun e => K v' ⟨bs, e⟩
theorem leaveK_eq (raw : Bool) (n : Nat) (v : AV) (h : H) (K : AV → H → Prop) : leaveK raw n v h K = K (leaveA raw n v h).1 (leaveA raw n v h).2 := by
  unfold leaveK
  rw [AV.force_eq, listK_eq, listK_eq]
def putsK : RG → Nat → List AV → (RG → Prop) → Prop
  | ⟨n, t⟩, _, [], K => K ⟨n, t⟩
  | ⟨n, t⟩, i, v :: l, K => RG.putK ⟨n, t⟩ i v fun r => putsK r (i + 1) l K
theorem putsK_eq : ∀ (l : List AV) (r : RG) (i : Nat) (K : RG → Prop), putsK r i l K = K (r.puts i l)
  | [], ⟨n, t⟩, _, _ => rfl
  | v :: l, ⟨n, t⟩, i, K => by
    simp only [putsK, RG.putK_eq, putsK_eq l, RG.puts]
/-- How a body ends. -/
def endK (P : Program) (fn : Func) (raw : Bool) (n : Nat) (K : AV → H → Prop) (x : AX) (s : ST) : Prop :=
  match x with
  | .normal => resK P s fn.results.toList fun vs => leaveK raw n (asOne vs) s.h K
  | .ret => resK P s fn.results.toList fun vs => leaveK raw n (asOne vs) s.h K
  | _ => False
theorem body_endK {E : Env} {call : CallF} {jmp : JumpF} {raw : Bool} {f : FuncId} {fn : Func} {c : Code} {args : List AV} {h : H} {K : AV → H → Prop} (hn : args.length ≤ fn.ntmps)
    (hwp : putsK (RG.empty fn.ntmps) 0 args fun r => codeK E call f jmp false c ⟨r, h⟩ (endK E.P fn raw h.bs.length K)) : ∃ v h', evBody E call jmp raw f fn c args h = some (.ret v, h') ∧ K v h' := by
  rw [putsK_eq] at hwp
  obtain ⟨x, s', h1, h2⟩ := codeK_sound _ _ _ _ _ _ hwp
  have hbody : resK E.P s' fn.results.toList (fun vs => leaveK raw h.bs.length (asOne vs) s'.h K) → (x = .normal ∨ x = .ret) → ∃ v h', evBody E call jmp raw f fn c args h = some (.ret v, h') ∧ K v h' := by
    intro hr hx
    obtain ⟨vs, h3, h4⟩ := resK_sound _ _ _ hr
    rw [leaveK_eq] at h4
    refine ⟨_, _, ?_, h4⟩
    unfold evBody
    rw [if_pos hn]
    rcases hx with rfl | rfl <;> simp only [h1, h3] <;> rfl
  cases x with
  | normal => exact hbody h2 (.inl rfl)
  | ret => exact hbody h2 (.inr rfl)
  | _ => exact h2.elim

theorem argsA_clean : ∀ (l : List AV) (bs : List AB), cleanL l = true → argsA bs l = (l, bs) := by
  intro l
  induction l with
  | nil => intros; rfl
  | cons a l ih =>
    intro bs hl
    simp only [cleanL, Bool.and_eq_true] at hl
    have ha : argA bs a = (a, bs) := by
      cases a <;> first | rfl | (simp [AV.clean] at hl)
    simp only [argsA, ha, ih bs hl.2]
/-- A row that is handed over is written no more. -/
theorem argA_rsl {bs : List AB} {b off n ver : Nat} {cap : Option Nat} {c : List AV} {i : BI} (hb : bs[b]? = some (.cells c i)) (hv : ver = verA i c.length) (hw : i.wr = true) (hcl : i.cl = true) (hl : off + n * i.sz ≤ c.length) (hz : 0 < i.sz) :
    argA bs (.rsl b off n cap ver) = (.sl ((c.drop off).take (n * i.sz)) n (tightA cap n), bs.set b (.cells c { i with wr := false })) := by
  have hs : ∀ deep, sealB deep bs b ver = some (c, i, bs.set b (.cells c { i with wr := false })) := by
    intro deep
    unfold sealB
    simp only [hb, hw, hcl, if_true, Bool.true_eq_false, if_false]
    rw [if_pos hv]
  unfold argA AV.seal
  simp only [sealV, hs]
  rw [if_pos ⟨hl, hz⟩]
  congr 2
  split
  · rename_i h
    rw [h.1, List.drop_zero, ← h.2, List.take_length]
  · rfl
/-- A call whose arguments are handed over as values. -/
theorem call_args {E : Env} {n : Nat} {from_ f : FuncId} {x y as_ : List AV} {h : H} (hraw : E.raw from_ f = false) (hcl : cleanL (argsA h.bs as_).1 = true) (hlend : E.lend f = false := by rfl) :
    evCall E (n + 1) from_ (.fn f x y) as_ h = evCall E (n + 1) from_ (.fn f x y) (argsA h.bs as_).1 { h with bs := (argsA h.bs as_).2 } := by
  show stepCall E _ _ from_ (.fn f x y) as_ h = stepCall E _ _ from_ (.fn f x y) (argsA h.bs as_).1 { h with bs := (argsA h.bs as_).2 }
  unfold stepCall stepCall0
  simp only [hlend, Bool.false_and, hraw, Bool.false_eq_true, if_false, argsA_clean _ _ hcl]
/-- A call of arguments that name no block. -/
theorem call_clean {E : Env} {n : Nat} {from_ f : FuncId} {fn : Func} {c : Code} {x y args : List AV} {v : AV} {h : H} (hok : E.ok f = true) (hf : E.P.funcs[f]? = some fn) (hb : fn.body = some c) (hraw : E.raw from_ f = false) (hcl : cleanL (x ++ args ++ y) = true) (hv : v.clean = true)
    (hsum : E.sum f (x ++ args ++ y) = none) (hn : (x ++ args ++ y).length ≤ fn.ntmps)
    (hwp : putsK (RG.empty fn.ntmps) 0 (x ++ args ++ y) fun r => codeK E (evAll E n).1 f (evAll E n).2 false c ⟨r, ⟨[], []⟩⟩ (endK E.P fn false 0 fun v' _ => v' = v)) : evCall E (n + 1) from_ (.fn f x y) args h = some (.ret v, h) := by
  obtain ⟨v', h', hk, rfl⟩ := body_endK hn hwp
  have hcl' : cleanL args = true := by
    rw [cleanL_app, cleanL_app, Bool.and_eq_true, Bool.and_eq_true] at hcl
    exact hcl.1.2
  show stepCall E (evAll E n).1 (evAll E n).2 from_ (.fn f x y) args h = _
  unfold stepCall stepCall0
  simp only [hcl', Bool.not_true, Bool.and_false, hraw, argsA_clean args h.bs hcl', hok, hf, hb, hcl, hsum, hk, hv, Bool.false_eq_true, if_false, Bool.not_false, Bool.and_true, if_true]
/-- The same, of a value of which something is told. -/
theorem call_cleanP {E : Env} {n : Nat} {f : FuncId} {fn : Func} {c : Code} {x y args : List AV} {R : AV → Prop} (hok : E.ok f = true) (hf : E.P.funcs[f]? = some fn) (hb : fn.body = some c) (hraw : ∀ g, E.raw g f = false) (hcl : cleanL (x ++ args ++ y) = true)
    (hsum : E.sum f (x ++ args ++ y) = none) (hn : (x ++ args ++ y).length ≤ fn.ntmps)
    (hwp : putsK (RG.empty fn.ntmps) 0 (x ++ args ++ y) fun r => codeK E (evAll E n).1 f (evAll E n).2 false c ⟨r, ⟨[], []⟩⟩ (endK E.P fn false 0 fun v _ => v.clean = true ∧ R v)) : ∃ v, R v ∧ ∀ (from_ : FuncId) (h : H), evCall E (n + 1) from_ (.fn f x y) args h = some (.ret v, h) := by
  obtain ⟨v', h', hk, hv, hR⟩ := body_endK hn hwp
  have hcl' : cleanL args = true := by
    rw [cleanL_app, cleanL_app, Bool.and_eq_true, Bool.and_eq_true] at hcl
    exact hcl.1.2
  refine ⟨v', hR, fun from_ h => ?_⟩
  show stepCall E (evAll E n).1 (evAll E n).2 from_ (.fn f x y) args h = _
  unfold stepCall stepCall0
  simp only [hcl', Bool.not_true, Bool.and_false, hraw, argsA_clean args h.bs hcl', hok, hf, hb, hcl, hsum, hk, hv, Bool.false_eq_true, if_false, Bool.not_false, Bool.and_true, if_true]
/-- A call that is walked where it stands: of a function that hands back blocks that may be written. -/
theorem call_raw {E : Env} {n : Nat} {from_ f : FuncId} {fn : Func} {c : Code} {x y args : List AV} {h : H} {K : AV → H → Prop} (hok : E.ok f = true) (hf : E.P.funcs[f]? = some fn) (hb : fn.body = some c) (hraw : E.raw from_ f = true) (hn : (x ++ args ++ y).length ≤ fn.ntmps)
    (hwp : putsK (RG.empty fn.ntmps) 0 (x ++ args ++ y) fun r => codeK E (evAll E n).1 f (evAll E n).2 false c ⟨r, h⟩ (endK E.P fn true h.bs.length K)) (hlend : E.lend f = false := by rfl) : ∃ v h', evCall E (n + 1) from_ (.fn f x y) args h = some (.ret v, h') ∧ K v h' := by
  obtain ⟨v', h', hk, hK⟩ := body_endK hn hwp
  refine ⟨v', h', ?_, hK⟩
  show stepCall E (evAll E n).1 (evAll E n).2 from_ (.fn f x y) args h = _
  unfold stepCall stepCall0
  simp only [hlend, Bool.false_and, hraw, hok, hf, hb, hk, Bool.not_true, Bool.and_false, Bool.false_eq_true, if_false, if_true]

/-- A call of a function that its arguments are lent to. -/
theorem call_lend {E : Env} {n : Nat} {from_ f : FuncId} {x y as_ as1 : List AV} {v : AV} {h : H} (hlend : E.lend f = true) (hcl : cleanL as_ = false) (ha : lendL 4 h.bs as_ = as1) (hc : cleanL (x ++ as1 ++ y) = true) (hf : v.flat = true)
    (hev : evCall E (n + 1) from_ (.fn f x y) as1 ⟨[], []⟩ = some (.ret v, ⟨[], []⟩)) : evCall E (n + 1) from_ (.fn f x y) as_ h = some (.ret v, h) := by
  have hc1 : cleanL as1 = true := by
    rw [cleanL_app, cleanL_app, Bool.and_eq_true, Bool.and_eq_true] at hc
    exact hc.1.2
  have hev : stepCall E (evAll E n).1 (evAll E n).2 from_ (.fn f x y) as1 ⟨[], []⟩ = some (.ret v, ⟨[], []⟩) := hev
  show stepCall E (evAll E n).1 (evAll E n).2 from_ (.fn f x y) as_ h = _
  unfold stepCall at hev ⊢
  simp only [hc1, Bool.not_true, Bool.and_false, Bool.false_eq_true, if_false] at hev
  simp only [hlend, hcl, Bool.not_false, Bool.and_true, if_true, ha, hc, hev, hf]
/-- What the machine does, from what the abstract one says. -/
theorem law_calls {E : Env} (hE : EnvOk E) (hs : SumOk E) {n : Nat} {from_ f : FuncId} {args : List AV} {v : AV} {h' : H} (hev : evCall E n from_ (.fn f [] []) args ⟨[], []⟩ = some (.ret v, h')) {W : World} {vals : List Value} (ha : RepPL (fun c => c < W.heap.size) W.heap args vals) :
    Calls E.P f vals.toArray W fun e W' => ∃ (u : Value) (K' : KS), e = .returned u ∧ RepV K' h'.bs W'.heap v u ∧ Goes { I := fun c => c < W.heap.size, β := id, κ := id } [] W K' h'.bs W' := by
  have hr : HR { I := fun c => c < W.heap.size, β := id, κ := id } [] W.heap := hr_nil (bs := []) ⟨fun b b' x x' h => by simp at h, fun b x h => by simp at h, fun c hc => hc, fun b x h => by simp at h, fun b c i h => by simp at h⟩
  rcases evCall_sound hE hs n _ _ _ _ _ _ _ _ _ _ hev hr esc_nil (.fn .nil .nil) (.of_clean ha) with ⟨f', first, cap, hf, _, hc⟩ | ⟨l, _, _, _, _, hf, _⟩
  · cases hf
    simp only [Array.append_empty, Array.empty_append] at hc
    refine hc.mono fun e W' hd => ?_
    obtain ⟨K', g1, _, g3⟩ := hd
    cases e with
    | returned u => exact ⟨u, K', rfl, g3, g1⟩
    | _ => exact g3.elim
  · cases hf
theorem goes_block {K K' : KS} {bs' : List AB} {w w' : World} (h : Goes K [] w K' bs' w') : ∀ c, c < w.heap.size → w'.heap[c]? = w.heap[c]? :=
  fun c hc => h.tr.keep c hc fun hi => by
    obtain ⟨b, x, hx, _⟩ := hi
    simp at hx

/-- A call that is walked where it stands, its rows handed over: of a function that bears what names blocks. -/
theorem call_inline {E : Env} {n : Nat} {from_ f : FuncId} {fn : Func} {c : Code} {x y as_ : List AV} {h : H} {K : AV → H → Prop} (hok : E.ok f = true) (hf : E.P.funcs[f]? = some fn) (hb : fn.body = some c) (hraw : E.raw from_ f = false)
    (hwp : listK (argsA h.bs as_).1 fun as1 => listK (argsA h.bs as_).2 fun bs1 => listK h.esc fun esc => lenK bs1 fun base => match cleanL (x ++ as1 ++ y), Nat.ble (x ++ as1 ++ y).length fn.ntmps with
      | false, true => putsK (RG.empty fn.ntmps) 0 (x ++ as1 ++ y) fun r => codeK E (evAll E n).1 f (evAll E n).2 false c ⟨r, ⟨bs1, esc⟩⟩ (endK E.P fn false base K)
      | _, _ => False) (hlend : E.lend f = false := by rfl) : ∃ v h', evCall E (n + 1) from_ (.fn f x y) as_ h = some (.ret v, h') ∧ K v h' := by
  simp only [listK_eq, lenK_eq] at hwp
  split at hwp
  · rename_i hcl hl
    have hl := Nat.le_of_ble_eq_true hl
    obtain ⟨v', h', hk, hK⟩ := body_endK hl (h := { h with bs := (argsA h.bs as_).2 }) hwp
    refine ⟨v', h', ?_, hK⟩
    show stepCall E (evAll E n).1 (evAll E n).2 from_ (.fn f x y) as_ h = _
    unfold stepCall stepCall0
    simp only [hlend, Bool.false_and, hraw, hok, hf, hb, hk, hcl, Bool.not_false, Bool.and_true, Bool.false_eq_true, if_false, if_true]
  · exact hwp.elim

/-! Loops over a function. -/
def trimK (h : H) (n : Nat) (K : H → Prop) : Prop := listK (H.trim h n).bs fun bs => listK (H.trim h n).esc fun esc => K ⟨bs, esc⟩
theorem trimK_eq (h : H) (n : Nat) (K : H → Prop) : trimK h n K = K (H.trim h n) := by
  unfold trimK
  rw [listK_eq, listK_eq]
def rangeEndK (tmps : RG) (b : Nat) (h' : H) (Q : AX → ST → Prop) : Prop :=
  match h'.bs[b]? with
  | some (.loop _ _ _ _ _ st pend) => match st with
    | .busy => False
    | _ => match jumpA pend with
      | some x => trimK { h' with bs := h'.bs.set b .dead } b fun h'' => Q x ⟨tmps, h''⟩
      | none => False
  | _ => False
theorem range_K {E : Env} {call : CallF} {jmp : JumpF} {fid : FuncId} {f : Operand} {ps : Array Tmp} {assign body : Code} {tmps : RG} {bs : List AB} {esc : List (Nat × Nat)} {Q : AX → ST → Prop}
    (hwp : (opnd tmps f).force fun g => lenK bs fun b => match g with
      | .fn g x y => listK (bs ++ [.loop fid tmps ps.toList assign body .ready none]) fun bs1 => callK call fid (.fn g x y) [.yc b] ⟨bs1, esc⟩ fun _ h' => rangeEndK tmps b h' Q
      | _ => False) : ∃ x s', evCode E call jmp false fid (.rangeFunc f ps assign body) ⟨tmps, ⟨bs, esc⟩⟩ = some (x, s') ∧ Q x s' := by
  rw [AV.force_eq, lenK_eq] at hwp
  split at hwp
  · rename_i g x y hg
    rw [listK_eq] at hwp
    obtain ⟨v, h', h1, h2⟩ := hwp
    unfold rangeEndK at h2
    split at h2
    · rename_i hb
      split at h2
      · exact h2.elim
      · rename_i st pend _ hst
        split at h2
        · rename_i x' hx
          rw [trimK_eq] at h2
          refine ⟨_, _, ?_, h2⟩
          have hst' : ¬ st = .busy := fun e => by subst e; exact hst rfl
          simp only [evCode, Bool.false_eq_true, if_false, evRange, hg, h1, hb, if_neg hst', hx]
        · exact h2.elim
    · exact h2.elim
  · exact hwp.elim
def putsPK : RG → List (Tmp × AV) → (RG → Prop) → Prop
  | ⟨n, t⟩, [], K => K ⟨n, t⟩
  | ⟨n, t⟩, (i, v) :: l, K => RG.putK ⟨n, t⟩ i v fun r => putsPK r l K
theorem putsPK_eq : ∀ (l : List (Tmp × AV)) (r : RG) (K : RG → Prop), putsPK r l K = K (l.foldl (fun t p => t.put p.1 p.2) r)
  | [], ⟨n, t⟩, _ => rfl
  | (i, v) :: l, ⟨n, t⟩, K => by simp only [putsPK, RG.putK_eq, putsPK_eq l, List.foldl_cons]
def endRK (b n : Nat) (st : LoopState) (p : Option Code) (h : H) (K : AV → H → Prop) : Prop :=
  match h.bs[b]? with
  | some (.loop fid tmps ps assign body _ _) => trimK { h with bs := h.bs.set b (.loop fid tmps ps assign body st p) } n fun h' => K (.bool p.isNone) h'
  | _ => False
theorem endRK_sound {b n : Nat} {st : LoopState} {p : Option Code} {h : H} {K : AV → H → Prop} (hk : endRK b n st p h K) : ∃ v h', endR b n st p h = some (.ret v, h') ∧ K v h' := by
  unfold endRK at hk
  split at hk
  · rename_i hb
    rw [trimK_eq] at hk
    exact ⟨_, _, by simp only [endR, hb], hk⟩
  · exact hk.elim
def bodyRK (b n : Nat) (K : AV → H → Prop) (x : AX) (s : ST) : Prop :=
  match x with
  | .normal => endRK b n .ready none s.h K
  | .ret => endRK b n .done (some .ret) s.h K
  | .exit id => endRK b n .done (some (.exit id)) s.h K
  | .goto l => endRK b n .done (some (.goto l)) s.h K
  | _ => False
def midRK (E : Env) (call : CallF) (jmp : JumpF) (fid : FuncId) (body : Code) (b n : Nat) (K : AV → H → Prop) (x : AX) (s : ST) : Prop :=
  match x with
  | .normal => match s.h.bs[b]? with
    | some (.loop fid1 tmps1 ps1 assign1 body1 .ready p1) => listK (s.h.bs.set b (.loop fid1 tmps1 ps1 assign1 body1 .busy p1)) fun bs' => codeK E call fid jmp true body ⟨s.tmps, ⟨bs', s.h.esc⟩⟩ (bodyRK b n K)
    | _ => False
  | _ => False
/-- A round of a loop over a function. -/
theorem yield_K {E : Env} {n : Nat} {from_ : FuncId} {b : Nat} {args : List AV} {bs : List AB} {esc : List (Nat × Nat)} {K : AV → H → Prop}
    (hwp : match bs[b]? with
      | some (.loop fid tmps ps assign body .ready _) => match Nat.beq args.length ps.length with
        | true => lenK bs fun n0 => putsPK tmps (ps.zip args) fun tmps1 => codeK E (evAll E n).1 fid (evAll E n).2 true assign ⟨tmps1, ⟨bs, esc⟩⟩ (midRK E (evAll E n).1 (evAll E n).2 fid body b n0 K)
        | false => False
      | _ => False) : ∃ v h', evCall E (n + 1) from_ (.yc b) args ⟨bs, esc⟩ = some (.ret v, h') ∧ K v h' := by
  show ∃ v h', yieldA E (evAll E n).1 (evAll E n).2 b args ⟨bs, esc⟩ = some (.ret v, h') ∧ K v h'
  split at hwp
  · rename_i fid tmps ps assign body pd hb
    split at hwp
    · rename_i hl
      rw [lenK_eq, putsPK_eq] at hwp
      obtain ⟨x, s1, h1, h2⟩ := codeK_sound _ _ _ _ _ _ hwp
      unfold midRK at h2
      split at h2
      · split at h2
        · rename_i fid1 tmps1 ps1 assign1 body1 p1 hb1
          rw [listK_eq] at h2
          obtain ⟨x2, s2, h3, h4⟩ := codeK_sound _ _ _ _ _ _ h2
          have hend : ∃ v h', (match some (x2, s2) with
              | some (.normal, s2) => endR b bs.length .ready none s2.h
              | some (.ret, s2) => endR b bs.length .done (some .ret) s2.h
              | some (.exit id, s2) => endR b bs.length .done (some (.exit id)) s2.h
              | some (.goto l, s2) => endR b bs.length .done (some (.goto l)) s2.h
              | _ => none) = some (.ret v, h') ∧ K v h' := by
            unfold bodyRK at h4
            cases x2 with
            | normal => exact endRK_sound h4
            | ret => exact endRK_sound h4
            | exit id => exact endRK_sound h4
            | goto l => exact endRK_sound h4
            | panic v => exact h4.elim
          obtain ⟨v, h', h5, h6⟩ := hend
          refine ⟨v, h', ?_, h6⟩
          rw [← h5]
          unfold yieldA
          simp only [hb, Nat.eq_of_beq_eq_true hl, if_true, h1, hb1, h3]
          cases x2 <;> rfl
        · exact h2.elim
      · exact h2.elim
    · exact hwp.elim
  · exact hwp.elim
end Go.Proofs.Ytnkeijebkpjdgaa.Ab
