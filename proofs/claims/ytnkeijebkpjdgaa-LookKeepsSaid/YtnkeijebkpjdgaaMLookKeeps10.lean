import Derived.Test.YtnkeijebkpjdgaaMLookKeeps9
import Derived.LoopNIn
import Derived.Test.YtnkeijebkpjdgaaMLookKeeps2
set_option linter.unusedVariables false
set_option linter.unusedSimpArgs false
/- The engine, twenty-first text: code is sound: what is next, branches, loops, jumps. -/
namespace Go.Proofs.Ytnkeijebkpjdgaa.Ab
open Go

/-- What the machine does where the abstract one runs some code. -/
def CodeGood (P : Program) (ro : Option Nat) (c : Code) (f : ST → Option (AX × ST)) : Prop :=
  ∀ (s : ST) (x : AX) (s' : ST) (n0 : Nat) (K : KS) (a : Act) (w : World), f s = some (x, s') → SR n0 K s a w → c.wpIn (fence ro) 0 P (PostR n0 K s w x s') a w
def JumpSound (P : Program) (jmp : JumpF) : Prop := ∀ (ro : Option Nat) (rd : Bool) (fid : FuncId) (c : Code), rd = ro.isSome → CodeGood P ro c (jmp rd fid c)

section
variable {n0 : Nat} {K K1 : KS} {s s1 s' : ST} {w w1 : World} {x : AX}
theorem PostR.trans (hg : Goes K s.h.bs w K1 s1.h.bs w1) {e : Exit} {a' : Act} {w' : World} (h : PostR n0 K1 s1 w1 x s' e a' w') : PostR n0 K s w x s' e a' w' := by
  obtain ⟨K', h1, h2, h3⟩ := h
  exact ⟨K', hg.trans h1, h2, h3⟩
theorem ExR.normal {bs : List AB} {hp : Array Obj} {e : Exit} (h : ExR K bs hp .normal e) : e = .normal := by cases e <;> first | rfl | exact h.elim
theorem ExR.exit {bs : List AB} {hp : Array Obj} {i : Nat} {e : Exit} (h : ExR K bs hp (.exit i) e) : e = .exit i := by
  cases e <;> first | exact h.elim | skip
  have : i = _ := h
  rw [this]
theorem ExR.goto {bs : List AB} {hp : Array Obj} {i : Nat} {e : Exit} (h : ExR K bs hp (.goto i) e) : e = .goto i := by
  cases e <;> first | exact h.elim | skip
  have : i = _ := h
  rw [this]
theorem ExR.ret {bs : List AB} {hp : Array Obj} {e : Exit} (h : ExR K bs hp .ret e) : e = .ret := by cases e <;> first | rfl | exact h.elim
theorem ExR.not_normal {bs : List AB} {hp : Array Obj} (hx : ∀ (_ : x = .normal), False) (h : ExR K bs hp x .normal) : False := by
  cases x <;> first | exact h.elim | exact hx rfl
end

/-- The labels of a scope: the code goes on behind a label, so often. -/
def scopeIn (F : Fence) (n : Nat) (P : Program) (body : Code) (Q : Exit → Act → World → Prop) : Nat → Code → Act → World → Prop
  | 0, _, _, _ => False
  | m + 1, c, a, w => c.wpIn F n P (fun e a' w' => match e with
      | .goto l => match findLabel body l with
        | none => Q (.goto l) a' w'
        | some rest => scopeIn F n P body Q m rest a' w'
      | e => Q e a' w') a w
theorem stepR_scope {P : Program} {b : Frame} {a : Act} {k : List Item} {cs : List Frame} {w : World} {body : Code} :
    step P (lone (b.atR a (.code (.scope body) :: k)) cs w) = .next (lone (b.atR a (.code body :: .inScope body :: k)) cs w) :=
  step_lone_go (by simp [stepG, stepG.exec, Frame.atR])
theorem stepR_inScope {P : Program} {b : Frame} {a : Act} {k : List Item} {cs : List Frame} {w : World} {body : Code} :
    step P (lone (b.atR a (.inScope body :: k)) cs w) = .next (lone (b.atR a k) cs w) :=
  step_lone_go (by simp [stepG, stepG.exec, Frame.atR])
theorem wpIn_scope {F : Fence} {n : Nat} {P : Program} {body : Code} {Q : Exit → Act → World → Prop} {a : Act} {w : World} (m : Nat) (h : scopeIn F n P body Q m body a w) : (Code.scope body).wpIn F n P Q a w := by
  intro b k cs hro hb hr
  have key : ∀ m c a w, scopeIn F n P body Q m c a w →
      ∃ e a' w', Q e a' w' ∧ ArrivesIn (Machine.fenced P F) P (lone (b.atR a (.code c :: .inScope body :: k)) cs w) b k cs e a' w' := by
    intro m
    induction m with
    | zero => intro c a w h; exact h.elim
    | succ m ih =>
      intro c a w h
      obtain ⟨e, a₁, w₁, hq, harr⟩ := h b (.inScope body :: k) cs hro hb hr
      cases e with
      | normal => exact ⟨.normal, a₁, w₁, hq, StepsIn.trans harr (.one (fenced_calm hb hr rfl) stepR_inScope)⟩
      | exit id => exact ⟨.exit id, a₁, w₁, hq, harr⟩
      | goto l =>
        simp only at hq
        cases hf : findLabel body l with
        | none =>
          rw [hf] at hq
          have hx : gotoIn l (.inScope body :: k) = gotoIn l k := by simp [gotoIn, hf]
          exact ⟨.goto l, a₁, w₁, hq, fun k' hk => harr.1 k' (by rw [hx]; exact hk), fun hr' hk => harr.2 hr' (by rw [hx]; exact hk)⟩
        | some rest =>
          rw [hf] at hq
          have hx : gotoIn l (.inScope body :: k) = some (.code rest :: .inScope body :: k) := by simp [gotoIn, hf]
          obtain ⟨e₂, a₂, w₂, hq₂, harr₂⟩ := ih rest a₁ w₁ hq
          exact ⟨e₂, a₂, w₂, hq₂, .of_steps (harr.1 _ hx) harr₂⟩
      | ret => exact ⟨.ret, a₁, w₁, hq, harr⟩
      | panic ch => exact ⟨.panic ch, a₁, w₁, hq, harr⟩
      | outgrown => exact ⟨.outgrown, a₁, w₁, hq, harr⟩
  obtain ⟨e, a', w', hq, harr⟩ := key m body a w h
  exact ⟨e, a', w', hq, .of_steps (.one (fenced_calm hb hr rfl) stepR_scope) harr⟩

section
variable {n0 : Nat} {K0 K : KS} {bs0 : List AB} {w0 w : World} {s : ST} {a : Act}
theorem RegR.keep {bs : List AB} {hp : Array Obj} {r : RG} {v : Array Value} (h : RegR K bs hp r v) (ks : List Nat) : RegR K bs hp (r.keep ks) v :=
  h.weak (RG.keep_n r ks) fun j => (RG.keep_get r ks j).imp id fun h => h.1
/-- What is forgotten at a loop's head. -/
theorem norm_sound (ks : Option (List Nat)) {n : Nat} (hn : bs0.length ≤ n) (hg : Goes K0 bs0 w0 K s.h.bs w) (hS : SR n0 K s a w) :
    Goes K0 bs0 w0 K (s.norm ks n).h.bs w ∧ SR n0 K (s.norm ks n) a w := by
  unfold ST.norm
  split
  · exact ⟨hg, hS⟩
  · rename_i ks
    have plain : Goes K0 bs0 w0 K ({ s with tmps := s.tmps.keep ks } : ST).h.bs w ∧ SR n0 K { s with tmps := s.tmps.keep ks } a w :=
      ⟨hg, hS.hr, hS.esc, hS.reg.keep ks, hS.marks⟩
    split
    · exact plain
    · split
      · rename_i hk
        obtain ⟨h1, h2⟩ := hS.hr.cut hS.esc hk
        refine ⟨⟨hg.tr.cut (by omega), h1, hg.os, hg.tape, hg.output⟩, h1, h2, ?_, hS.marks⟩
        have hb : ∀ b, b < max n (s.tmps.topOf ks) → (s.h.bs.take (max n (s.tmps.topOf ks)))[b]? = s.h.bs[b]? := fun b hb => by rw [List.getElem?_take, if_pos hb]
        have hr := hS.reg.keep ks
        refine ⟨hr.1, fun j => ?_⟩
        rcases RG.keep_get s.tmps ks j with h | ⟨h, ht⟩
        · rw [h]; exact .ofHole _
        · exact (hr.2 j).near hb (by rw [h]; omega)
      · exact plain
end

section
variable {P : Program} {ro : Option Nat}
theorem loop_sound {b : Code} {f : ST → Option (AX × ST)} (hf : CodeGood P ro b f) (ks : Option (List Nat)) {n0 : Nat} {K0 : KS} {s0 : ST} {w0 : World} {x : AX} {s' : ST} (hr0 : HR K0 s0.h.bs w0.heap) :
    ∀ (m : Nat) (s : ST) (K : KS) (a : Act) (w : World), evLoop f (ST.norm ks s0.h.bs.length) m s = some (x, s') → Goes K0 s0.h.bs w0 K s.h.bs w → SR n0 K s a w →
      Code.roundsIn (fence ro) 0 P b (PostR n0 K0 s0 w0 x s') m a w
  | 0, s, K, a, w, h, _, _ => by simp [evLoop] at h
  | m + 1, s, K, a, w, h, hg, hS => by
    rw [roundsIn_succ]
    obtain ⟨hg1, hS1⟩ := norm_sound ks (Nat.le_refl _) hg hS
    simp only [evLoop] at h
    split at h
    · rename_i s1 hf1
      refine wpIn_mono (hf _ _ _ n0 K a w hf1 hS1) fun e a' w' hp => ?_
      obtain ⟨K', h1, h2, h3⟩ := hp
      cases h3.normal
      exact loop_sound hf ks hr0 m s1 K' a' w' h (hg1.trans h1) h2
    · rename_i r hnn
      refine wpIn_mono (hf _ _ _ n0 K a w h hS1) fun e a' w' hp => ?_
      have hp' := PostR.trans hg1 hp
      cases e with
      | normal =>
        obtain ⟨K', h1, h2, h3⟩ := hp
        exact (h3.not_normal fun e => hnn _ (by rw [h, e])).elim
      | _ => exact hp'
theorem jumps_sound {jmp : Code → ST → Option (AX × ST)} (hj : ∀ c, CodeGood P ro c (jmp c)) {body : Code} {n0 : Nat} {K0 : KS} {s0 : ST} {w0 : World} {x : AX} {s' : ST} :
    ∀ (m : Nat) (l : Nat) (s : ST) (K : KS) (a : Act) (w : World), evJumps jmp body m l s = some (x, s') → Goes K0 s0.h.bs w0 K s.h.bs w → SR n0 K s a w →
      match findLabel body l with
      | none => PostR n0 K0 s0 w0 x s' (.goto l) a w
      | some rest => scopeIn (fence ro) 0 P body (PostR n0 K0 s0 w0 x s') m rest a w
  | 0, l, s, K, a, w, h, _, _ => by simp [evJumps] at h
  | m + 1, l, s, K, a, w, h, hg, hS => by
    simp only [evJumps] at h
    split at h
    · rename_i hfl
      cases h
      simp only [hfl]
      exact ⟨K, hg, hS, rfl⟩
    · rename_i rest hfl
      simp only [hfl, scopeIn]
      split at h
      · rename_i l' s1 hj1
        refine wpIn_mono (hj rest _ _ _ n0 K a w hj1 hS) fun e a' w' hp => ?_
        obtain ⟨K', h1, h2, h3⟩ := hp
        cases h3.goto
        exact jumps_sound hj m l' s1 K' a' w' h (hg.trans h1) h2
      · rename_i r hnn
        refine wpIn_mono (hj rest _ _ _ n0 K a w h hS) fun e a' w' hp => ?_
        have hp' := PostR.trans hg hp
        cases e with
        | goto l1 =>
          obtain ⟨K', h1, h2, h3⟩ := hp
          exfalso
          cases x with
          | goto l2 => exact hnn l2 s' h
          | _ => exact h3
        | _ => exact hp'
end
end Go.Proofs.Ytnkeijebkpjdgaa.Ab
/- The engine, twenty-second text: loops over functions; code is sound. -/
namespace Go.Proofs.Ytnkeijebkpjdgaa.Ab
open Go

/-- A block that nobody of the numbered ones is. -/
theorem goes_alloc {K : KS} {bs : List AB} {w : World} (hr : HR K bs w.heap) (o : Obj) : Goes K bs w K bs (w.alloc o) := by
  have hk : ∀ c, c < w.heap.size → (w.heap.push o)[c]? = w.heap[c]? := fun c hc => get_push_lt o hc
  have htr : Tr K bs w.heap K bs (w.heap.push o) :=
    { size := by simp
      keep := fun c hc _ => hk c hc
      imono := fun _ h => h
      inew := fun _ h => .inl h
      img := fun _ h => .inl h
      le := fun b x' _ hx hl => ⟨x', hx, .inr ⟨hl, kin_refl hl, Nat.le_refl _, fun _ => ⟨rfl, rfl⟩⟩⟩
      void := fun b x' _ hx hv => ⟨x', hx, hv⟩
      len := Nat.le_refl _ }
  refine ⟨htr, ⟨hr.inj, ?_, fun c hc => ?_, hr.wr, hr.nwr⟩, rfl, rfl, rfl⟩
  · intro b x hx hl
    obtain ⟨o', ho, hR⟩ := hr.obj b x hx hl
    exact ⟨o', (hk _ (hr.lt b x hx hl)).trans ho, hR.mono (htr.lat hr)⟩
  · have h1 := hr.ilt c hc
    show c < (w.heap.push o).size
    simp; omega
/-- A loop's record turns. -/
theorem goes_loop {K : KS} {bs : List AB} {w : World} (hr : HR K bs w.heap) {b : Nat} {f : FuncId} {t : RG} {p : List Tmp} {as_ body : Code} {st st' : LoopState} {j j' : Option Code} (hb : bs[b]? = some (.loop f t p as_ body st j)) :
    ∃ l : Loop, w.heap[K.β b]? = some (.loop l) ∧ l.state = st ∧ l.pending = j ∧ l.params.toList = p ∧ l.assign = as_ ∧ l.body = body ∧ RegR K bs w.heap t l.tmps ∧
      ∃ K', Goes K bs w K' (bs.set b (.loop f t p as_ body st' j')) (w.putObj (K.β b) (.loop { l with state := st', pending := j' })) ∧ K'.β b = K.β b := by
  obtain ⟨o, ho, l, rfl, h1, h2, h3, h4, h5, h6⟩ := hr.obj b _ hb rfl
  refine ⟨l, ho, h1, h2, h3, h4, h5, h6, ?_⟩
  have hlt := (List.getElem?_eq_some_iff.1 hb).1
  have hβ := hr.lt b _ hb rfl
  have u : Upd K bs w.heap b (K.β b) (K.κ b) (.loop f t p as_ body st' j') (.loop { l with state := st', pending := j' }) (bs.set b (.loop f t p as_ body st' j')) (w.putObj (K.β b) (.loop { l with state := st', pending := j' })).heap :=
    { at_ := by rw [List.getElem?_set_self hlt]
      other := fun c hc => by rw [List.getElem?_set_ne (fun e => hc e.symm)]
      size := by rw [World.putObj_size]; exact Nat.le_refl _
      here := World.putObj_heap_same hβ
      there := fun c _ hc => World.putObj_heap_other hc
      old := .inr (.inr ⟨_, hb, rfl, trivial, Nat.le_refl _, fun _ => ⟨rfl, rfl⟩⟩)
      place := .inr ⟨rfl, _, hb, rfl⟩
      live := rfl
      wrt := rfl
      obj := ⟨_, rfl, rfl, rfl, h3, h4, h5, h6⟩ }
  exact ⟨_, ⟨u.tr hr, u.hr hr, rfl, rfl, rfl⟩, updN_same _ _ _⟩
theorem esc_loop {h : H} (he : EscR h) {b : Nat} {f : FuncId} {t : RG} {p : List Tmp} {as_ body : Code} {st st' : LoopState} {j j' : Option Code} (hb : h.bs[b]? = some (.loop f t p as_ body st j)) :
    EscR { h with bs := h.bs.set b (.loop f t p as_ body st' j') } := by
  intro c x hx
  rw [List.getElem?_set] at hx
  split at hx
  · rename_i hc
    subst hc
    split at hx
    · cases hx
      have h1 := he b _ hb
      exact h1
    · cases hx
  · exact he c x hx
/-- A loop's record that is done with goes. -/
theorem goes_kill {K : KS} {bs : List AB} {w : World} (hr : HR K bs w.heap) {b : Nat} {x : AB} (hb : bs[b]? = some x) (hw : x.wrt = true) (o : Obj) :
    Goes K bs w K (bs.set b .dead) (w.putObj (K.β b) o) := by
  have hlt := (List.getElem?_eq_some_iff.1 hb).1
  have hget : ∀ (c : Nat) (y : AB), (bs.set b AB.dead)[c]? = some y → y.live = true → c ≠ b ∧ bs[c]? = some y := by
    intro c y hy hl
    rw [List.getElem?_set] at hy
    split at hy
    · cases hy; cases hl
    · rename_i hc
      exact ⟨fun e => hc e.symm, hy⟩
  have hne : ∀ (c : Nat) (y : AB), c ≠ b → bs[c]? = some y → y.live = true → K.β c ≠ K.β b := fun c y hc hy hl e => hc (hr.inj c b y x hy hb hl (wrt_live hw) e)
  have htr : Tr K bs w.heap K (bs.set b .dead) (w.putObj (K.β b) o).heap :=
    { size := by rw [World.putObj_size]; exact Nat.le_refl _
      keep := fun c _ hn => World.putObj_heap_other fun e => hn ⟨b, x, hb, hw, e.symm⟩
      imono := fun _ h => h
      inew := fun _ h => .inl h
      img := fun c hc => by
        obtain ⟨d, y, hy, hyw, he⟩ := hc
        exact .inl ⟨d, y, (hget d y hy (wrt_live hyw)).2, hyw, he⟩
      le := fun d y _ hy hl => ⟨y, (hget d y hy hl).2, .inr ⟨hl, kin_refl hl, Nat.le_refl _, fun _ => ⟨rfl, rfl⟩⟩⟩
      void := fun d y _ hy hv => by
        rw [List.getElem?_set] at hy
        split at hy
        · cases hy; cases hv
        · exact ⟨y, hy, hv⟩
      len := by simp }
  refine ⟨htr, ⟨?_, ?_, fun c hc => ?_, ?_, ?_⟩, rfl, rfl, rfl⟩
  · intro c c' y y' hy hy' hl hl'
    exact hr.inj c c' y y' (hget c y hy hl).2 (hget c' y' hy' hl').2 hl hl'
  · intro c y hy hl
    obtain ⟨hc, hy⟩ := hget c y hy hl
    obtain ⟨o', ho, hR⟩ := hr.obj c y hy hl
    exact ⟨o', (World.putObj_heap_other (hne c y hc hy hl)).trans ho, hR.mono (htr.lat hr)⟩
  · rw [World.putObj_size]; exact hr.ilt c hc
  · intro c y hy hyw
    exact hr.wr c y (hget c y hy (wrt_live hyw)).2 hyw
  · intro c cs i hy hi
    exact hr.nwr c cs i (hget c _ hy rfl).2 hi
theorem esc_kill {h : H} (he : EscR h) (b : Nat) : EscR { h with bs := h.bs.set b .dead } := by
  intro c x hx
  rw [List.getElem?_set] at hx
  split at hx
  · split at hx
    · cases hx
      exact .inl (Nat.zero_le _)
    · cases hx
  · exact he c x hx
/-- The blocks from n on go. -/
theorem trim_sound {K0 K : KS} {bs0 : List AB} {w0 w : World} {h : H} {n : Nat} (hn : bs0.length ≤ n) (hg : Goes K0 bs0 w0 K h.bs w) (he : EscR h) :
    Goes K0 bs0 w0 K (h.trim n).bs w ∧ EscR (h.trim n) ∧ (∀ b, b < n → (h.trim n).bs[b]? = h.bs[b]?) := by
  unfold H.trim
  split
  · exact ⟨hg, he, fun _ _ => rfl⟩
  · split
    · rename_i hk
      obtain ⟨h1, h2⟩ := hg.hr.cut he hk
      refine ⟨⟨hg.tr.cut hn, h1, hg.os, hg.tape, hg.output⟩, h2, fun b hb => ?_⟩
      show (h.bs.take n)[b]? = _
      rw [List.getElem?_take, if_pos hb]
    · exact ⟨hg, he, fun _ _ => rfl⟩

section
variable {P : Program}
/-- A loop over a function. -/
theorem range_sound {call : CallF} (hc : CallSound P call) {fid : FuncId} {g : Operand} {ps : Array Tmp} {assign body : Code} :
    CodeGood P none (.rangeFunc g ps assign body) (evRange call fid g ps assign body) := by
  intro s x s' n0 K a w hev hS
  unfold evRange at hev
  split at hev
  · rename_i f xs ys hop
    split at hev
    · rename_i rv h' hcall
      split at hev
      · rename_i f1 t1 p1 as1 b1 st pend hlb
        split at hev
        · cases hev
        · rename_i hst
          split at hev
          · rename_i ax hj
            cases hev
            -- the machine
            have hfv := opnd_rep hS.reg g
            rw [hop] at hfv
            obtain ⟨va, vb, hfe, hxa, hyb⟩ := hfv.inv_fn
            have hsz : n0 ≤ w.heap.size := hS.marks.1
            have g1 := goes_alloc hS.hr (.deferred (some []))
            have L1 := g1.lat hS.hr
            refine wpIn_rangeFunc fun fn _ => ?_
            have hobj : ObjR K s.h.bs (w.alloc (.deferred (some []))).heap 0 (.loop fid s.tmps ps.toList assign body .ready none) (.loop { state := .ready, pending := none, fn := fn, tmps := a.tmps, params := ps, assign := assign, body := body, defers := w.heap.size }) :=
              ⟨_, rfl, rfl, rfl, rfl, rfl, rfl, hS.reg.mono L1⟩
            obtain ⟨K1, g2, hβ1, _⟩ := goes_new g1.hr (.inl rfl) (x := .loop fid s.tmps ps.toList assign body .ready none) rfl hobj
            have happ : appBs s.h.bs s.h.bs.length (.new (.loop fid s.tmps ps.toList assign body .ready none)) = s.h.bs ++ [.loop fid s.tmps ps.toList assign body .ready none] := by
              simp [appBs, H.app]
            rw [happ] at g2
            have hsize : (w.alloc (.deferred (some []))).heap.size = w.heap.size + 1 := World.size_alloc ..
            rw [hsize] at hβ1
            have g12 := g1.trans g2
            have L12 := g12.lat hS.hr
            have hlast : (s.h.bs ++ [AB.loop fid s.tmps ps.toList assign body .ready none])[s.h.bs.length]? = some (.loop fid s.tmps ps.toList assign body .ready none) := by simp
            have hyc : RepV K1 (s.h.bs ++ [.loop fid s.tmps ps.toList assign body .ready none]) ((w.alloc (.deferred (some []))).alloc (.loop { state := .ready, pending := none, fn := fn, tmps := a.tmps, params := ps, assign := assign, body := body, defers := w.heap.size })).heap (.yc s.h.bs.length) (.func (.yield (w.heap.size + 1)) #[] #[]) :=
              .yc ⟨_, hlast, rfl, fun _ => Nat.zero_le _⟩ fun _ _ _ _ _ _ _ _ => hβ1.symm
            have hesc1 : EscR { s.h with bs := s.h.bs ++ [.loop fid s.tmps ps.toList assign body .ready none] } := by
              intro b y hy
              rw [List.getElem?_append] at hy
              split at hy
              · exact hS.esc b y hy
              · rename_i hb
                have hlt := (List.getElem?_eq_some_iff.1 hy).1
                have hbe : b = s.h.bs.length := by simp at hlt; omega
                subst hbe
                simp at hy
                subst hy
                have := hS.reg.top
                exact .inl (by show s.tmps.t.top ≤ _; omega)
            have hM := hc _ _ _ _ _ _ K1 _ _ _ hcall g12.hr hesc1 ((RepV.fn hxa hyb).mono L12) (.cons hyc .nil)
            rcases hM with ⟨f', first, cap, hfn', hcf, hcalls⟩ | ⟨l, fn', tm', as', bo', hy', _⟩
            · injection hfn' with e1 e2 e3
              injection e1 with e1
              subst e1 e2 e3
              refine ⟨w.heap.size + 1, [{ target := .collected w.heap.size, args := #[] }], _, { target := .fn (.func f) vb.toArray, args := va.toArray ++ #[.func (.yield (w.heap.size + 1)) #[] #[]] }, _, f, _, _, run_enterLoop_outer fn a.tmps ps assign body, ?_, fun _ _ => trivial, hcf, fun h => by simp [fence, Fence.wide] at h, ?_⟩
              · unfold resolve
                have hm : Array.map a.eval #[Operand.const (.func (.yield (w.heap.size + 1)) #[] #[])] = #[.func (.yield (w.heap.size + 1)) #[] #[]] := by simp [Act.eval]
                simp only [hfe, Deferred.ofValue, Sem.run_pure, hm]
                rfl
              · have h4 : CallsIn Fence.wide (0 - 1) P f _ _ _ := callsIn_wide.2 hcalls
                refine CallsIn.mono (F := fence none) h4 fun e w2 hd => ?_
                obtain ⟨K2, g3, hesc2, hend⟩ := hd
                cases e with
                | panicked chain => exact hend.elim
                | outgrown => exact hend.elim
                | returned v =>
                  have hbo : born (s.h.bs ++ [AB.loop fid s.tmps ps.toList assign body .ready none]) s.h.bs.length 0 := ⟨_, hlast, rfl, fun _ => Nat.zero_le _⟩
                  obtain ⟨_, _, _, _, _, _, _, _, hβ2⟩ := (g3.lat g12.hr).loop _ hbo _ _ _ _ _ _ _ hlb
                  rw [hβ1] at hβ2
                  obtain ⟨o, ho, l, rfl, hl1, hl2, hl3, hl4, hl5, hl6⟩ := g3.hr.obj _ _ hlb rfl
                  rw [hβ2] at ho
                  have hend := run_endLoop (P := P) ho (by rw [hl1]; exact hst)
                  refine ⟨_, _, hend, ?_⟩
                  have g4 := goes_kill g3.hr hlb rfl (.loop { l with state := .exhausted })
                  rw [hβ2] at g4
                  have gall := (g12.trans g3).trans g4
                  obtain ⟨g5, hesc5, hsame⟩ := trim_sound (h := { h' with bs := h'.bs.set s.h.bs.length .dead }) (n := s.h.bs.length) (Nat.le_refl _) gall (esc_kill hesc2 _)
                  have hreg := (hS.reg.mono (g5.lat hS.hr))
                  have hmk : Marks n0 K1 ((w.alloc (.deferred (some []))).alloc (.loop { state := .ready, pending := none, fn := fn, tmps := a.tmps, params := ps, assign := assign, body := body, defers := w.heap.size })) ([{ target := .collected w.heap.size, args := #[] }] ++ a.defers) := by
                    obtain ⟨h0, Ds, hm1, hm2, hm3⟩ := hS.marks.goes hS.hr g12
                    obtain ⟨_, Ds0, hm10, _, hm30⟩ := hS.marks
                    have hDs : Ds = Ds0 := by
                      rw [hm1] at hm10
                      have hinj := congrArg (List.map fun d : Deferred => match d.target with | .collected r => r | _ => 0) hm10
                      simp [List.map_map] at hinj
                      have : ∀ l : List Nat, List.map ((fun d : Deferred => match d.target with | .collected r => r | _ => 0) ∘ fun D => { target := .collected D, args := #[] }) l = l := by
                        intro l
                        have : ((fun d : Deferred => match d.target with | .collected r => r | _ => 0) ∘ fun D => { target := .collected D, args := #[] }) = id := rfl
                        rw [this, List.map_id]
                      rwa [this, this] at hinj
                    subst hDs
                    refine ⟨h0, w.heap.size :: Ds, by rw [hm1]; rfl, List.nodup_cons.2 ⟨fun hm => ?_, hm2⟩, ?_⟩
                    · have := (Array.getElem?_eq_some_iff.1 (hm30 _ hm).2.1).1
                      omega
                    · intro D hD
                      rcases List.mem_cons.1 hD with rfl | hD
                      · refine ⟨hsz, ?_, fun hI => ?_⟩
                        · show ((w.heap.push _).push _)[w.heap.size]? = _
                          rw [get_push_lt _ (by simp)]
                          exact get_push_last _ _
                        · rcases g12.tr.inew _ hI with h | h | h
                          · have := hS.hr.ilt _ h; omega
                          · rcases g2.tr.inew _ hI with h2 | h2 | h2
                            · have := hS.hr.ilt _ h2; omega
                            · rw [hsize] at h2; omega
                            · obtain ⟨d, y, hy, hyw, he⟩ := h2
                              have := hS.hr.lt d y hy (wrt_live hyw)
                              omega
                          · have := hS.hr.img_lt h; omega
                      · exact hm3 D hD
                  have hmk2 := (hmk.goes g12.hr g3).goes g3.hr g4
                  have hSR : SR n0 K2 { s with h := H.trim { h' with bs := h'.bs.set s.h.bs.length .dead } s.h.bs.length } { a with defers := [{ target := .collected w.heap.size, args := #[] }] ++ a.defers } (w2.putObj (w.heap.size + 1) (.loop { l with state := .exhausted })) :=
                    ⟨g5.hr, hesc5, hreg, hmk2⟩
                  rw [hl2] at g5 hSR ⊢
                  cases pend with
                  | none =>
                    cases hj
                    exact ⟨K2, g5, hSR, trivial⟩
                  | some c =>
                    simp only
                    cases c with
                    | ret => cases hj; exact wpIn_ret ⟨K2, g5, hSR, trivial⟩
                    | exit id => cases hj; exact wpIn_exit ⟨K2, g5, hSR, rfl⟩
                    | goto l => cases hj; exact wpIn_goto ⟨K2, g5, hSR, rfl⟩
                    | _ => cases hj
            · cases hy'
          · cases hev
      · cases hev
    · cases hev
  · cases hev

/-- All code. -/
theorem code_sound {E : Env} (hE : EnvOk E) {call : CallF} (hc : CallSound E.P call) {jmp : JumpF} (hj : JumpSound E.P jmp) {ro : Option Nat} {rd : Bool} (hrd : rd = ro.isSome) (fid : FuncId) :
    ∀ c : Code, CodeGood E.P ro c (evCode E call jmp rd fid c) := by
  intro c
  induction c with
  | skip =>
    intro s x s' n0 K a w h hS
    cases h
    exact wpIn_skip ⟨K, Goes.refl hS.hr, hS, trivial⟩
  | region id ops draw =>
    intro s x s' n0 K a w h hS
    simp only [evCode] at h
    split at h
    · rename_i hd
      subst hd
      exact drawn_sound hE hc h hS
    · rename_i hd
      have hd : draw = false := by simpa using hd
      subst hd
      refine wpIn_region ?_
      rw [List.range_eq_range']
      have := ops_sound hE hc (ro := ro) (ops := ops) hS.hr ops.toList 0 s K a w (fun i => by simp) h (Goes.refl hS.hr) hS
      simpa using this
  | seq c1 c2 ih1 ih2 =>
    intro s x s' n0 K a w h hS
    simp only [evCode] at h
    refine wpIn_seq ?_
    split at h
    · rename_i s1 h1
      refine wpIn_mono (ih1 _ _ _ n0 K a w h1 hS) fun e a' w' hp => ?_
      obtain ⟨K', g1, g2, g3⟩ := hp
      cases g3.normal
      exact wpIn_mono (ih2 _ _ _ n0 K' a' w' h g2) fun e a' w' hp => PostR.trans g1 hp
    · rename_i r hnn
      refine wpIn_mono (ih1 _ _ _ n0 K a w h hS) fun e a' w' hp => ?_
      cases e with
      | normal =>
        obtain ⟨K', h1, h2, h3⟩ := hp
        exact (h3.not_normal fun e => hnn _ (by rw [h, e])).elim
      | _ => exact hp
  | cond v c1 c2 ih1 ih2 =>
    intro s x s' n0 K a w h hS
    simp only [evCode] at h
    have hv := opnd_rep hS.reg v
    split at h
    · rename_i t ht
      rw [ht] at hv
      have hv := hv.inv_bool
      cases t with
      | true =>
        rw [if_pos rfl] at h
        exact wpIn_cond_true hv (ih1 _ _ _ n0 K a w h hS)
      | false =>
        rw [if_neg (by simp)] at h
        exact wpIn_cond_false hv (ih2 _ _ _ n0 K a w h hS)
    · cases h
  | block id c ih =>
    intro s x s' n0 K a w h hS
    simp only [evCode] at h
    refine wpIn_block ?_
    split at h
    · rename_i id' s1 h1
      refine wpIn_mono (ih _ _ _ n0 K a w h1 hS) fun e a' w' hp => ?_
      obtain ⟨K', g1, g2, g3⟩ := hp
      cases g3.exit
      simp only [Exit.inBlock]
      split at h
      · rename_i hid
        cases h
        rw [if_pos hid]
        exact ⟨K', g1, g2, trivial⟩
      · rename_i hid
        cases h
        rw [if_neg hid]
        exact ⟨K', g1, g2, rfl⟩
    · rename_i r hnn
      refine wpIn_mono (ih _ _ _ n0 K a w h hS) fun e a' w' hp => ?_
      cases e with
      | exit id' =>
        exfalso
        obtain ⟨K', h1, h2, h3⟩ := hp
        cases x with
        | exit j => exact hnn _ _ h
        | _ => exact h3
      | _ => exact hp
  | loop c ih =>
    intro s x s' n0 K a w h hS
    simp only [evCode] at h
    exact wpIn_loop_rounds E.fuel (loop_sound ih _ hS.hr E.fuel s K a w h (Goes.refl hS.hr) hS)
  | rangeFunc g ps assign body _ _ =>
    intro s x s' n0 K a w h hS
    simp only [evCode] at h
    cases rd with
    | true => cases h
    | false =>
      cases ro with
      | some l => cases hrd
      | none => exact range_sound hc s x s' n0 K a w h hS
  | exit id =>
    intro s x s' n0 K a w h hS
    cases h
    exact wpIn_exit ⟨K, Goes.refl hS.hr, hS, rfl⟩
  | label l =>
    intro s x s' n0 K a w h hS
    cases h
    exact wpIn_label ⟨K, Goes.refl hS.hr, hS, trivial⟩
  | goto l =>
    intro s x s' n0 K a w h hS
    cases h
    exact wpIn_goto ⟨K, Goes.refl hS.hr, hS, rfl⟩
  | ret =>
    intro s x s' n0 K a w h hS
    cases h
    exact wpIn_ret ⟨K, Goes.refl hS.hr, hS, trivial⟩
  | scope c ih =>
    intro s x s' n0 K a w h hS
    simp only [evCode] at h
    refine wpIn_scope (E.fuel + 1) ?_
    simp only [scopeIn]
    split at h
    · rename_i l s1 h1
      refine wpIn_mono (ih _ _ _ n0 K a w h1 hS) fun e a' w' hp => ?_
      obtain ⟨K', g1, g2, g3⟩ := hp
      cases g3.goto
      exact jumps_sound (fun c => hj ro rd fid c hrd) E.fuel l s1 K' a' w' h g1 g2
    · rename_i r hnn
      refine wpIn_mono (ih _ _ _ n0 K a w h hS) fun e a' w' hp => ?_
      cases e with
      | goto l1 =>
        exfalso
        obtain ⟨K', h1, h2, h3⟩ := hp
        cases x with
        | goto j => exact hnn _ _ h
        | _ => exact h3
      | _ => exact hp
  | refuse m =>
    intro s x s' n0 K a w h hS
    cases h
end
end Go.Proofs.Ytnkeijebkpjdgaa.Ab
/- The engine: what is lent stands for what it stood for. -/
namespace Go.Proofs.Ytnkeijebkpjdgaa.Ab
open Go

mutual
theorem flat_clean : ∀ a : AV, a.flat = true → a.clean = true
  | .ifc _ v, h => by simp only [AV.flat] at h; simp only [AV.clean]; exact flat_clean v h
  | .agg c, h => by simp only [AV.flat] at h; simp only [AV.clean]; exact flatAll_clean c h
  | .tup c, h => by simp only [AV.flat] at h; simp only [AV.clean]; exact flatAll_clean c h
  | .hole, _ => rfl
  | .bool _, _ => rfl
  | .int .., _ => rfl
  | .str _, _ => rfl
  | .ptr0, _ => rfl
  | .sl0, _ => rfl
  | .map0, _ => rfl
  | .fn0, _ => rfl
  | .ifc0, _ => rfl
  | .vref .., _ => rfl
  | .sl .., _ => rfl
  | .ref .., h => by simp [AV.flat] at h
  | .rsl .., h => by simp [AV.flat] at h
  | .mref .., h => by simp [AV.flat] at h
  | .yc .., h => by simp [AV.flat] at h
  | .fn .., h => by simp [AV.flat] at h
theorem flatAll_clean : ∀ l : List AV, flatAll l = true → cleanL l = true
  | [], _ => rfl
  | v :: r, h => by
    simp only [flatAll, Bool.and_eq_true] at h
    simp only [cleanL, Bool.and_eq_true]
    exact ⟨flat_clean v h.1, flatAll_clean r h.2⟩
end
mutual
theorem RepP.flat {I J : Nat → Prop} {hp hq : Array Obj} {a : AV} {v : Value} (h : RepP I hp a v) (hf : a.flat = true) : RepP J hq a v := by
  cases h with
  | hole => simp [AV.flat] at hf
  | bool => exact .bool _
  | int => exact .int _ _
  | str => exact .str _
  | ptr0 => exact .ptr0
  | sl0 => exact .sl0
  | map0 => exact .map0
  | fn0 => exact .fn0
  | ifc0 => exact .ifc0
  | vref => simp [AV.flat] at hf
  | sl => simp [AV.flat] at hf
  | fn => simp [AV.flat] at hf
  | ifc h => exact .ifc (h.flat (by simpa only [AV.flat] using hf))
  | agg h => exact .agg (h.flat (by simpa only [AV.flat] using hf))
  | tup h => exact .tup (h.flat (by simpa only [AV.flat] using hf))
theorem RepPL.flat {I J : Nat → Prop} {hp hq : Array Obj} {l : List AV} {vs : List Value} (h : RepPL I hp l vs) (hf : flatAll l = true) : RepPL J hq l vs := by
  cases h with
  | nil => exact .nil
  | cons h0 h =>
    simp only [flatAll, Bool.and_eq_true] at hf
    exact .cons (h0.flat hf.1) (h.flat hf.2)
end
section
variable {K : KS} {bs : List AB} {hp : Array Obj}
def LendOk (K : KS) (bs : List AB) (hp : Array Obj) (deep : List AV → List AV) : Prop := ∀ (l : List AV) (vs : List Value), RepVL K bs hp l vs → cleanL (deep l) = true → RepPL (fun c => c < hp.size) hp (deep l) vs
theorem lent_cells (hr : HR K bs hp) {deep : List AV → List AV} (hd : LendOk K bs hp deep) {b : Nat} {c d : List AV} {i : BI} (hb : bs[b]? = some (.cells c i)) (h : lentC deep c i = some d) :
    ∃ us, K.β b < hp.size ∧ (∀ (j : Nat) (u : Value), us[j]? = some u → cellH hp (K.β b) j = some u ∧ u.oneCell' = true) ∧ RepPL (fun c => c < hp.size) hp d us ∧ d.length = c.length := by
  obtain ⟨o, ho, cc, e, lo, hi, us, rfl, h2, h3, h4, h5, h6⟩ := hr.obj b _ hb rfl
  have hcell : ∀ (j : Nat) (u : Value), us[j]? = some u → cellH hp (K.β b) j = some u ∧ u.oneCell' = true := by
    intro j u hu
    unfold cellH
    rw [ho]
    exact h4 j u hu
  unfold lentC at h
  split at h
  · rename_i hcl
    cases h
    exact ⟨us, hr.lt b _ hb rfl, hcell, (h5.toP (h6 hcl)).mono (fun c hc => hr.ilt c hc) (fun _ _ => rfl), rfl⟩
  · split at h
    · rename_i hq
      cases h
      rw [Bool.and_eq_true, beq_iff_eq] at hq
      exact ⟨us, hr.lt b _ hb rfl, hcell, hd c us h5 hq.1, hq.2⟩
    · cases h
mutual
theorem lendV_sound (hr : HR K bs hp) {deep : List AV → List AV} (hd : LendOk K bs hp deep) : ∀ (a : AV) {v : Value}, RepV K bs hp a v → (lendV deep bs a).clean = true → RepP (fun c => c < hp.size) hp (lendV deep bs a) v
  | .rsl b off n cap ver, v, h, hc => by
    simp only [lendV] at hc ⊢
    cases hb : bs[b]? with
    | none => simp [hb, AV.clean] at hc
    | some x =>
      cases x with
      | cells c i =>
        simp only [hb] at hc ⊢
        by_cases hq : ver = verA i c.length ∧ off + n * i.sz ≤ c.length ∧ 0 < i.sz
        · rw [if_pos hq] at hc ⊢
          cases hl : lentC deep c i with
          | none => simp [hl, AV.clean] at hc
          | some d =>
            simp only [hl] at hc ⊢
            obtain ⟨us, h5, h6, h7, h8⟩ := lent_cells hr hd hb hl
            obtain ⟨x, o, cp, rfl, _, e2, e3, e5, e4⟩ := h.inv_rsl
            obtain rfl := (e4 c i hb hq.1).1
            have ht : tightA cap n = true → cp = n := by
              intro ht
              cases cap with
              | none => simp [tightA] at ht
              | some m => simp [tightA] at ht; rw [e3 m rfl, ht]
            rcases e5 with e5 | e5
            · have hn0 : n = 0 := by omega
              subst hn0
              split
              · rename_i hw
                have hc0 : d = [] := List.eq_nil_of_length_eq_zero (by omega)
                subst hc0
                exact .sl e2 ht (.inl rfl) (us := []) (fun i u hu => by simp at hu) .nil (.inl rfl)
              · rw [Nat.zero_mul, List.take_zero]
                exact .sl e2 ht (.inl rfl) (us := []) (fun i u hu => by simp at hu) .nil (.inl rfl)
            · subst e5
              split
              · rename_i hw
                refine .sl e2 ht (.inr h5) (us := us) ?_ h7 (.inl rfl)
                rw [hw.1]; simpa using h6
              · exact .sl e2 ht (.inr h5) (us := (us.drop o).take (n * i.sz)) (cells_mono h6 _) ((h7.drop _).take _) (.inl rfl)
        · rw [if_neg hq] at hc
          simp [AV.clean] at hc
      | _ => simp [hb, AV.clean] at hc
  | .ref b off ver, v, h, hc => by
    simp only [lendV] at hc ⊢
    cases hb : bs[b]? with
    | none => simp [hb, AV.clean] at hc
    | some x =>
      cases x with
      | cells c i =>
        simp only [hb] at hc ⊢
        by_cases hq : ver = verA i c.length
        · rw [if_pos hq] at hc ⊢
          cases hl : lentC deep c i with
          | none => simp [hl, AV.clean] at hc
          | some d =>
            simp only [hl] at hc ⊢
            obtain ⟨us, h5, h6, h7, h8⟩ := lent_cells hr hd hb hl
            obtain ⟨x, rfl, _, e1⟩ := h.inv_ref
            obtain rfl := e1 c i hb hq
            have := RepP.vref (I := fun c => c < hp.size) (hp := hp) (off := off) (o := 0) (.inr h5) (fun i u hu => by simpa using h6 i u hu) h7
            simpa using this
        · rw [if_neg hq] at hc
          simp [AV.clean] at hc
      | _ => simp [hb, AV.clean] at hc
  | .fn f x y, v, h, hc => by
    simp only [lendV] at hc ⊢
    simp only [AV.clean, Bool.and_eq_true] at hc
    obtain ⟨va, vb, rfl, h1, h2⟩ := h.inv_fn
    exact .fn (lendVL_sound hr hd x h1 hc.1) (lendVL_sound hr hd y h2 hc.2)
  | .ifc t a, v, h, hc => by
    simp only [lendV] at hc ⊢
    simp only [AV.clean] at hc
    obtain ⟨u, rfl, h1⟩ := h.inv_ifc
    exact .ifc (lendV_sound hr hd a h1 hc)
  | .agg c, v, h, hc => by
    simp only [lendV] at hc ⊢
    simp only [AV.clean] at hc
    obtain ⟨u, rfl, h1⟩ := h.inv_agg
    exact .agg (lendVL_sound hr hd c h1 hc)
  | .tup c, v, h, hc => by
    simp only [lendV] at hc ⊢
    simp only [AV.clean] at hc
    obtain ⟨u, rfl, h1⟩ := h.inv_tup
    exact .tup (lendVL_sound hr hd c h1 hc)
  | .hole, v, h, hc => by simp only [lendV] at hc ⊢; exact (h.toP hc).mono (fun c hc => hr.ilt c hc) (fun _ _ => rfl)
  | .bool _, v, h, hc => by simp only [lendV] at hc ⊢; exact (h.toP hc).mono (fun c hc => hr.ilt c hc) (fun _ _ => rfl)
  | .int .., v, h, hc => by simp only [lendV] at hc ⊢; exact (h.toP hc).mono (fun c hc => hr.ilt c hc) (fun _ _ => rfl)
  | .str _, v, h, hc => by simp only [lendV] at hc ⊢; exact (h.toP hc).mono (fun c hc => hr.ilt c hc) (fun _ _ => rfl)
  | .ptr0, v, h, hc => by simp only [lendV] at hc ⊢; exact (h.toP hc).mono (fun c hc => hr.ilt c hc) (fun _ _ => rfl)
  | .sl0, v, h, hc => by simp only [lendV] at hc ⊢; exact (h.toP hc).mono (fun c hc => hr.ilt c hc) (fun _ _ => rfl)
  | .map0, v, h, hc => by simp only [lendV] at hc ⊢; exact (h.toP hc).mono (fun c hc => hr.ilt c hc) (fun _ _ => rfl)
  | .fn0, v, h, hc => by simp only [lendV] at hc ⊢; exact (h.toP hc).mono (fun c hc => hr.ilt c hc) (fun _ _ => rfl)
  | .ifc0, v, h, hc => by simp only [lendV] at hc ⊢; exact (h.toP hc).mono (fun c hc => hr.ilt c hc) (fun _ _ => rfl)
  | .vref .., v, h, hc => by simp only [lendV] at hc ⊢; exact (h.toP hc).mono (fun c hc => hr.ilt c hc) (fun _ _ => rfl)
  | .sl .., v, h, hc => by simp only [lendV] at hc ⊢; exact (h.toP hc).mono (fun c hc => hr.ilt c hc) (fun _ _ => rfl)
  | .mref .., v, h, hc => by simp only [lendV] at hc; simp [AV.clean] at hc
  | .yc .., v, h, hc => by simp only [lendV] at hc; simp [AV.clean] at hc
theorem lendVL_sound (hr : HR K bs hp) {deep : List AV → List AV} (hd : LendOk K bs hp deep) : ∀ (l : List AV) {vs : List Value}, RepVL K bs hp l vs → cleanL (lendVL deep bs l) = true → RepPL (fun c => c < hp.size) hp (lendVL deep bs l) vs
  | [], vs, h, hc => by
    simp only [lendVL]
    cases h
    exact .nil
  | a :: l, vs, h, hc => by
    simp only [lendVL] at hc ⊢
    simp only [cleanL, Bool.and_eq_true] at hc
    cases h with
    | cons h0 h => exact .cons (lendV_sound hr hd a h0 hc.1) (lendVL_sound hr hd l h hc.2)
end
theorem lendL_sound (hr : HR K bs hp) : ∀ n, LendOk K bs hp (lendL n bs)
  | 0 => fun l vs h hc => by
    simp only [lendL] at hc ⊢
    exact (h.toP hc).mono (fun c hc => hr.ilt c hc) (fun _ _ => rfl)
  | n + 1 => fun l vs h hc => by
    simp only [lendL] at hc ⊢
    exact lendVL_sound hr (lendL_sound hr n) l h hc
end
/-! What names no block is lent as it is. -/
mutual
theorem lendV_clean {deep : List AV → List AV} {bs : List AB} : ∀ a : AV, a.clean = true → lendV deep bs a = a
  | .fn _ x y, h => by
    simp only [AV.clean, Bool.and_eq_true] at h
    simp only [lendV, lendVL_clean x h.1, lendVL_clean y h.2]
  | .ifc _ v, h => by
    simp only [AV.clean] at h
    simp only [lendV, lendV_clean v h]
  | .agg c, h => by
    simp only [AV.clean] at h
    simp only [lendV, lendVL_clean c h]
  | .tup c, h => by
    simp only [AV.clean] at h
    simp only [lendV, lendVL_clean c h]
  | .ref .., h => by simp [AV.clean] at h
  | .rsl .., h => by simp [AV.clean] at h
  | .mref .., _ => rfl
  | .yc .., _ => rfl
  | .hole, _ => rfl
  | .bool _, _ => rfl
  | .int .., _ => rfl
  | .str _, _ => rfl
  | .ptr0, _ => rfl
  | .sl0, _ => rfl
  | .map0, _ => rfl
  | .fn0, _ => rfl
  | .ifc0, _ => rfl
  | .vref .., _ => rfl
  | .sl .., _ => rfl
theorem lendVL_clean {deep : List AV → List AV} {bs : List AB} : ∀ l : List AV, cleanL l = true → lendVL deep bs l = l
  | [], _ => rfl
  | v :: r, h => by
    simp only [cleanL, Bool.and_eq_true] at h
    simp only [lendVL, lendV_clean v h.1, lendVL_clean r h.2]
end
theorem lendL_clean : ∀ (n : Nat) (bs : List AB) (l : List AV), cleanL l = true → lendL n bs l = l
  | 0, _, _, _ => rfl
  | _ + 1, _, l, h => lendVL_clean l h
/-- A row that names no block. -/
theorem lendV_row {m : Nat} {bs : List AB} {b n ver : Nat} {cap : Option Nat} {c : List AV} {i : BI} (hb : bs[b]? = some (.cells c i)) (hv : ver = verA i c.length) (hc : cleanL c = true) (hl : c.length = n * i.sz) (hz : 0 < i.sz) : lendV (lendL m bs) bs (.rsl b 0 n cap ver) = .sl c n (tightA cap n) := by
  have hd : lentC (lendL m bs) c i = some c := by
    unfold lentC
    rw [lendL_clean m bs c hc, hc]
    simp
  simp only [lendV, hb]
  rw [if_pos ⟨hv, by omega, hz⟩, hd]
  simp [hl]
end Go.Proofs.Ytnkeijebkpjdgaa.Ab
/- The engine, twenty-third text: calls are sound. -/
namespace Go.Proofs.Ytnkeijebkpjdgaa.Ab
open Go

section
variable {P : Program}
theorem sure_as {a : Value} {t : TypeId} {w : World} {v : Value} {w' : World} (h : (Instr.loadAt t a).run P w = .ok v w') : (do loadVar t (← asAddr a) : Sem Value).run P w = .ok v w' := by
  unfold Instr.loadAt at h
  rw [Sem.run_bind] at h ⊢
  cases a with
  | pointer p =>
    cases p with
    | some x => exact h
    | none => simp [Instr.sureAddr, Result.andThen] at h
  | _ => simp [Instr.sureAddr, Result.andThen] at h
def resM (tmps : Array Value) : ResultVar → Sem Value
  | .tmp t => pure (tmps.getD t undef)
  | .cell a t => do loadVar t (← asAddr (tmps.getD a undef))
theorem res_list {s : ST} {K : KS} {w : World} {tmps : Array Value} (hr : HR K s.h.bs w.heap) (hreg : RegR K s.h.bs w.heap s.tmps tmps) : ∀ (l : List ResultVar) (vs : List AV), resA P s l = some vs →
    ∃ us : List Value, Sem.run P (l.mapM (resM tmps)) w = .ok us w ∧ RepVL K s.h.bs w.heap vs us
  | [], vs, h => by
    cases h
    exact ⟨[], rfl, .nil⟩
  | .tmp t :: l, vs, h => by
    simp only [resA, Option.map_eq_some_iff] at h
    obtain ⟨vs', h1, rfl⟩ := h
    obtain ⟨us, h2, h3⟩ := res_list hr hreg l vs' h1
    refine ⟨tmps.getD t undef :: us, ?_, .cons (hreg.2 t) h3⟩
    rw [List.mapM_cons, Sem.run_bind]
    simp only [resM, Sem.run_pure, Result.andThen_ok, Sem.run_bind, h2]
  | .cell a t :: l, vs, h => by
    simp only [resA] at h
    split at h
    · rename_i v x hm
      simp only [Option.map_eq_some_iff] at h
      obtain ⟨vs', h1, rfl⟩ := h
      obtain ⟨us, h2, h3⟩ := res_list hr hreg l vs' h1
      obtain ⟨u, h4, h5, _⟩ := load_sound (P := P) hr (nid := 0) (hreg.2 a) hm
      refine ⟨u :: us, ?_, .cons h5 h3⟩
      rw [List.mapM_cons, Sem.run_bind]
      have h6 : (resM tmps (.cell a t)).run P w = .ok u w := sure_as h4
      rw [h6]
      simp only [Sem.run_pure, Result.andThen_ok, Sem.run_bind, h2]
    · cases h
theorem results_sound {s : ST} {K : KS} {w : World} {tmps : Array Value} (hr : HR K s.h.bs w.heap) (hreg : RegR K s.h.bs w.heap s.tmps tmps) {fn : Func} {vs : List AV} (h : resA P s fn.results.toList = some vs) :
    ∃ v, (results fn tmps).run P w = .ok v w ∧ RepV K s.h.bs w.heap (asOne vs) v := by
  obtain ⟨us, h1, h2⟩ := res_list hr hreg _ _ h
  have he : results fn tmps = (do let vs ← fn.results.mapM (resM tmps); pure (if h : vs.size = 1 then vs[0] else .tuple vs)) := rfl
  rw [he, Array.mapM_eq_mapM_toList]
  refine ⟨if h : us.toArray.size = 1 then us.toArray[0] else .tuple us.toArray, ?_, ?_⟩
  · simp only [Sem.run_bind, map_eq_pure_bind, h1, Result.andThen_ok, Sem.run_pure]
  · have hl := h2.len
    unfold asOne
    split
    · rename_i v
      cases h2 with
      | cons h0 h2 =>
        cases h2
        simpa using h0
    · rename_i hne
      have : us.toArray.size ≠ 1 := by
        intro e
        have e1 : us.length = 1 := by simpa using e
        cases vs with
        | nil => simp at hl; omega
        | cons v vs =>
          cases vs with
          | nil => exact hne v rfl
          | cons _ _ => simp at hl; omega
      rw [dif_neg this]
      exact .tup h2
end

section
variable {K0 K : KS} {bs0 bs : List AB} {w0 w : World}
/-- The block of a loop's deferred calls is shut. -/
theorem shut_one {D : Nat} (hg : Goes K0 bs0 w0 K bs w) (hD : w0.heap.size ≤ D) (hd : w.heap[D]? = some (.deferred (some []))) (hI : ¬ K.I D) :
    Goes K0 bs0 w0 K bs (w.putObj D (.deferred none)) ∧ Lat K bs w.heap K bs (w.putObj D (.deferred none)).heap := by
  have hk : ∀ c, c ≠ D → (w.putObj D (.deferred none)).heap[c]? = w.heap[c]? := fun c hc => World.putObj_heap_other hc
  have L : Lat K bs w.heap K bs (w.putObj D (.deferred none)).heap :=
    { imono := fun _ h => h
      same := fun c hc => hk c fun e => hI (e ▸ hc)
      born := fun _ _ h => h
      cells := fun b ver _ c' i' hc he => ⟨c', i', hc, he, rfl, rfl, rfl, rfl, rfl⟩
      map := fun b _ es h => ⟨es, h, rfl⟩
      loop := fun b _ f t p a c s j h => ⟨f, t, p, a, c, s, j, h, rfl⟩ }
  refine ⟨⟨⟨?_, fun c hc hn => ?_, hg.tr.imono, hg.tr.inew, hg.tr.img, hg.tr.le, hg.tr.void, hg.tr.len⟩, ⟨hg.hr.inj, ?_, fun c hc => ?_, hg.hr.wr, hg.hr.nwr⟩, hg.os, hg.tape, hg.output⟩, L⟩
  · rw [World.putObj_size]; exact hg.tr.size
  · exact (hk c (by omega)).trans (hg.tr.keep c hc hn)
  · intro b x hx hl
    obtain ⟨o, ho, hR⟩ := hg.hr.obj b x hx hl
    refine ⟨o, (hk _ fun e => ?_).trans ho, hR.mono L⟩
    cases hw : x.wrt with
    | true => exact img_kind hg.hr ⟨b, x, hx, hw, e⟩ hd
    | false =>
      cases x with
      | cells c i => exact hI (e ▸ (hg.hr.nwr b c i hx hw).1)
      | map es => cases hw
      | loop => cases hw
      | dead => cases hl
      | void => cases hl
  · rw [World.putObj_size]; exact hg.hr.ilt c hc
theorem leaves_sound {P : Program} {fn : Func} {tmps : Array Value} {R : Ending → World → Prop} {u : FrameMode} (hu : u ≠ .run) : ∀ (Ds : List Nat) (w : World), Goes K0 bs0 w0 K bs w → Ds.Nodup →
    (∀ D ∈ Ds, w0.heap.size ≤ D ∧ w.heap[D]? = some (.deferred (some [])) ∧ ¬ K.I D) →
    (∀ w', Goes K0 bs0 w0 K bs w' → (∀ a v, RepV K bs w.heap a v → RepV K bs w'.heap a v) → LeavesIn Fence.wide 0 P fn tmps R [] u w') →
    LeavesInM Fence.wide 0 P fn tmps R (Ds.map fun D => { target := .collected D, args := #[] }) u w
  | [], w, hg, _, _, h => h w hg fun _ _ h => h
  | D :: Ds, w, hg, hn, hD, h => by
    obtain ⟨h1, h2, h3⟩ := hD D (List.mem_cons_self ..)
    obtain ⟨g1, L⟩ := shut_one hg h1 h2 h3
    have hn' := List.nodup_cons.1 hn
    refine ⟨hu, .inl ⟨D, _, rfl, run_takeDeferred h2, leaves_sound hu Ds _ g1 hn'.2 (fun D' hD' => ?_) fun w' g' hR => h w' g' fun a v hv => hR a v (hv.mono L)⟩⟩
    obtain ⟨k1, k2, k3⟩ := hD D' (List.mem_cons_of_mem _ hD')
    refine ⟨k1, ?_, k3⟩
    rw [World.putObj_heap_other fun e => hn'.1 (by rw [← e]; exact hD')]
    exact k2

theorem Sealed.goes {K' : KS} {bs' : List AB} (h : Sealed K bs w.heap K' bs') : Goes K bs w K' bs' w := ⟨h.tr, h.hr, rfl, rfl, rfl⟩
/-- A call's end. -/
theorem leave_sound {h0 h : H} {raw : Bool} (hg : Goes K0 h0.bs w0 K h.bs w) (he : EscR h) {v : AV} {u : Value} (hv : RepV K h.bs w.heap v u) :
    ∃ K', Goes K0 h0.bs w0 K' (leaveA raw h0.bs.length v h).2.bs w ∧ EscR (leaveA raw h0.bs.length v h).2 ∧ RepV K' (leaveA raw h0.bs.length v h).2.bs w.heap (leaveA raw h0.bs.length v h).1 u := by
  have key : ∀ (v' : AV) (bs' : List AB) (K' : KS), Goes K h.bs w K' bs' w → EscR { h with bs := bs' } → RepV K' bs' w.heap v' u → ∀ r, (if v'.und h0.bs.length && escOk h0.bs.length h.esc then (v', ({ bs := bs'.take h0.bs.length, esc := escCut h0.bs.length h.esc } : H)) else (v', { h with bs := bs' })) = r →
      ∃ K', Goes K0 h0.bs w0 K' r.2.bs w ∧ EscR r.2 ∧ RepV K' r.2.bs w.heap r.1 u := by
    intro v' bs' K' g1 e1 r1 r hr
    have g2 := hg.trans g1
    split at hr
    · rename_i hc
      subst hr
      simp only [Bool.and_eq_true] at hc
      obtain ⟨h1, h2⟩ := HR.cut (h := { h with bs := bs' }) g1.hr e1 hc.2
      refine ⟨K', ⟨g2.tr.cut (Nat.le_refl _), h1, g2.os, g2.tape, g2.output⟩, h2, ?_⟩
      exact r1.near (fun b hb => by show (bs'.take _)[b]? = _; rw [List.getElem?_take, if_pos hb]) ((und_iff _ _).1 hc.1)
    · subst hr
      exact ⟨K', g2, e1, r1⟩
  unfold leaveA
  cases raw with
  | true =>
    simp only [if_true]
    exact key v h.bs K (Goes.refl hg.hr) he hv _ rfl
  | false =>
    simp only [Bool.false_eq_true, if_false]
    obtain ⟨K', s1, s2⟩ := seal_sound hg.hr v hv
    exact key _ _ K' s1.goes (s1.top.esc he) s2 _ rfl
end

section
variable {E : Env}
theorem fence_none : fence none = Fence.wide := rfl
/-- A function's body. -/
theorem body_sound (hE : EnvOk E) {call : CallF} (hc : CallSound E.P call) {jmp : JumpF} (hj : JumpSound E.P jmp) {raw : Bool} {f : FuncId} {fn : Func} {c : Code} (hf : E.P.funcs[f]? = some fn) (hb : fn.body = some c)
    {args : List AV} {h : H} {r : AR} {h' : H} (hev : evBody E call jmp raw f fn c args h = some (r, h')) {K : KS} {w : World} (hr : HR K h.bs w.heap) (he : EscR h) {vals : List Value} (ha : RepVL K h.bs w.heap args vals) :
    Calls E.P f vals.toArray w (DoneR K h w r h') := by
  refine (callsIn_wide (n := 0)).1 (callsIn_of_wp_marks hf hb trivial ?_)
  unfold evBody at hev
  split at hev
  · rename_i hlen
    have hS : SR w.heap.size K { tmps := (RG.empty fn.ntmps).puts 0 args, h := h } { tmps := vals.toArray ++ Array.replicate (fn.ntmps - vals.toArray.size) undef, defers := [] } w :=
      ⟨hr, he, RegR.start ha hlen, Marks.nil (Nat.le_refl _) K⟩
    rw [← fence_none]
    -- how a body ends well
    have good : ∀ (s : ST) (e : Exit) (a' : Act) (w' : World) (K' : KS), Goes K h.bs w K' s.h.bs w' → SR w.heap.size K' s a' w' → (∀ vs, resA E.P s fn.results.toList = some vs → (let (v, h'') := leaveA raw h.bs.length (asOne vs) s.h; some (AR.ret v, h'')) = some (r, h') →
        LeavesInM Fence.wide 0 E.P fn a'.tmps (DoneR K h w r h') a'.defers .returning w') := by
      intro s e a' w' K' g1 g2 vs hvs hev
      obtain ⟨_, Ds, hm1, hm2, hm3⟩ := g2.marks
      rw [hm1]
      refine leaves_sound (by simp) Ds w' g1 hm2 hm3 fun w'' g3 hR => ?_
      have hreg : RegR K' s.h.bs w''.heap s.tmps a'.tmps := ⟨g2.reg.1, fun i => hR _ _ (g2.reg.2 i)⟩
      obtain ⟨v, h1, h2⟩ := results_sound g3.hr hreg hvs
      refine ⟨v, h1, ?_⟩
      obtain ⟨K'', k1, k2, k3⟩ := leave_sound (raw := raw) (h0 := h) g3 g2.esc h2
      cases hev
      exact ⟨K'', k1, k2, k3⟩
    have post : ∀ x s, evCode E call jmp false f c { tmps := (RG.empty fn.ntmps).puts 0 args, h := h } = some (x, s) → (∀ e a' w', PostR w.heap.size K { tmps := (RG.empty fn.ntmps).puts 0 args, h := h } w x s e a' w' → bodyPostM Fence.wide 0 E.P fn (DoneR K h w r h') e a' w') →
        c.wpIn (fence none) 0 E.P (bodyPostM Fence.wide 0 E.P fn (DoneR K h w r h')) { tmps := vals.toArray ++ Array.replicate (fn.ntmps - vals.toArray.size) undef, defers := [] } w :=
      fun x s hx hp => wpIn_mono (code_sound hE hc hj (ro := none) rfl f c _ x s _ K _ w hx hS) hp
    split at hev
    · rename_i s hx
      split at hev
      · rename_i vs hvs
        refine post _ _ hx fun e a' w' hp => ?_
        obtain ⟨K', g1, g2, g3⟩ := hp
        cases g3.normal
        exact good s .normal a' w' K' g1 g2 vs hvs hev
      · cases hev
    · rename_i s hx
      split at hev
      · rename_i vs hvs
        refine post _ _ hx fun e a' w' hp => ?_
        obtain ⟨K', g1, g2, g3⟩ := hp
        cases g3.ret
        exact good s .ret a' w' K' g1 g2 vs hvs hev
      · cases hev
    · rename_i v s hx
      refine post _ _ hx fun e a' w' hp => ?_
      obtain ⟨K', g1, g2, g3⟩ := hp
      cases e with
      | panic chain =>
        obtain ⟨u, rfl, hu⟩ := g3
        obtain ⟨_, Ds, hm1, hm2, hm3⟩ := g2.marks
        show LeavesInM _ _ _ _ _ _ a'.defers _ _
        rw [hm1]
        refine leaves_sound (by simp) Ds w' g1 hm2 hm3 fun w'' g4 hR => ?_
        obtain ⟨K'', k1, k2, k3⟩ := leave_sound (raw := false) (h0 := h) g4 g2.esc (hR _ _ hu)
        cases hev
        exact ⟨K'', k1, k2, u, rfl, k3⟩
      | _ => exact g3.elim
    · cases hev
  · cases hev

theorem endR_sound {b n : Nat} {st : LoopState} {p : Option Code} (hst : st = if p.isNone then .ready else .done) {K0 K : KS} {h0 h : H} {w0 w : World} (hn : n = h0.bs.length) (hg : Goes K0 h0.bs w0 K h.bs w) (he : EscR h) (hlt : b < n) {r : AR} {h' : H} (hev : endR b n st p h = some (r, h')) {l : Nat} (hl : ∀ f t ps as_ bo st j, h.bs[b]? = some (.loop f t ps as_ bo st j) → l = K.β b) {P : Program} :
    ∃ v w', (Instr.endRound l p).run P w = .ok v w' ∧ DoneR K0 h0 w0 r h' (.returned v) w' := by
  unfold endR at hev
  split at hev
  · rename_i f t ps as_ bo st0 j0 hb
    cases hev
    have e := hl _ _ _ _ _ _ _ hb
    subst e
    obtain ⟨lo, ho, h1, h2, h3, h4, h5, h6, K', g1, hβ⟩ := goes_loop hg.hr (st' := st) (j' := p) hb
    refine ⟨_, _, run_endRound p ho, ?_⟩
    subst hn
    have g2 := hg.trans g1
    rw [hst] at g2
    obtain ⟨g3, g4, _⟩ := trim_sound (h := { h with bs := h.bs.set b (.loop f t ps as_ bo (if p.isNone then .ready else .done) p) }) (n := h0.bs.length) (Nat.le_refl _) g2 (esc_loop he hb)
    refine ⟨K', ?_, ?_, .clean (.bool _)⟩
    · rw [hst]; exact g3
    · rw [hst]; exact g4
  · cases hev
theorem fold_rep {K : KS} {bs : List AB} {hp : Array Obj} : ∀ (l : List (Tmp × AV)) (m : List (Tmp × Value)) (t : RG) (a : Array Value), l.map (·.1) = m.map (·.1) → RepVL K bs hp (l.map (·.2)) (m.map (·.2)) → RegR K bs hp t a →
    RegR K bs hp (l.foldl (fun t p => t.put p.1 p.2) t) (m.foldl (fun a p => a.setIfInBounds p.1 p.2) a)
  | [], [], t, a, _, _, h => h
  | [], _ :: _, _, _, h, _, _ => by simp at h
  | _ :: _, [], _, _, h, _, _ => by simp at h
  | (i, v) :: l, (j, u) :: m, t, a, h1, h2, h => by
    simp only [List.map_cons, List.cons.injEq] at h1
    obtain ⟨rfl, h1⟩ := h1
    simp only [List.map_cons] at h2
    cases h2 with
    | cons h0 h2 => exact fold_rep l m _ _ h1 h2 (h.put h0 i)

/-- A round of a loop over a function. -/
theorem yield_sound (hE : EnvOk E) {call : CallF} (hc : CallSound E.P call) {jmp : JumpF} (hj : JumpSound E.P jmp) {b : Nat} {args : List AV} {h : H} {r : AR} {h' : H} (hev : yieldA E call jmp b args h = some (r, h'))
    {K : KS} {w : World} (hr : HR K h.bs w.heap) (he : EscR h) {vals : List Value} (ha : RepVL K h.bs w.heap args vals) {fval : Value} (hf : RepV K h.bs w.heap (.yc b) fval) :
    MCall E.P fval vals.toArray w (DoneR K h w r h') := by
  unfold yieldA at hev
  split at hev
  · rename_i fid tmps ps assign body p0 hb
    split at hev
    · rename_i hlen
      split at hev
      · rename_i s1 hx1
        split at hev
        · rename_i fid1 tmps1 ps1 assign1 body1 p1 hb1
          obtain ⟨l, rfl, hlx⟩ := hf.inv_yc
          have hl := hlx _ _ _ _ _ _ _ hb
          subst hl
          obtain ⟨o, ho, lo, rfl, h1, h2, h3, h4, h5, h6⟩ := hr.obj b _ hb rfl
          have hval := ha.len
          have hps : ps.length = lo.params.size := by rw [← h3]; simp
          have hblt := (List.getElem?_eq_some_iff.1 hb).1
          refine .inr ⟨K.β b, lo.fn, _, lo.assign, lo.body, rfl, run_yield ho (by simp; omega), roundIn_of_wpIn trivial ?_⟩
          have hfence : Fence.wide.inRound (K.β b) = fence (some (K.β b)) := rfl
          rw [hfence, h4, h5]
          have hreg : RegR K h.bs w.heap ((ps.zip args).foldl (fun t p => t.put p.1 p.2) tmps) ((lo.params.zip vals.toArray).foldl (fun tmps (t, a) => tmps.setIfInBounds t a) lo.tmps) := by
            rw [← Array.foldl_toList]
            have hz : (lo.params.zip vals.toArray).toList = ps.zip vals := by rw [Array.toList_zip, h3]
            rw [hz]
            refine fold_rep _ _ _ _ ?_ ?_ h6
            · rw [List.map_fst_zip (by omega), List.map_fst_zip (by omega)]
            · rw [List.map_snd_zip (by omega), List.map_snd_zip (by omega)]
              exact ha
          have hS : SR w.heap.size K { tmps := (ps.zip args).foldl (fun t p => t.put p.1 p.2) tmps, h := h } { tmps := (lo.params.zip vals.toArray).foldl (fun tmps (t, a) => tmps.setIfInBounds t a) lo.tmps, defers := [] } w :=
            ⟨hr, he, hreg, Marks.nil (Nat.le_refl _) K⟩
          refine wpIn_mono (code_sound hE hc hj (ro := some (K.β b)) rfl fid assign _ _ s1 _ K _ w hx1 hS) fun e a1 w1 hp => ?_
          obtain ⟨K1, g1, g2, g3⟩ := hp
          cases g3.normal
          have hbo : born h.bs b 0 := ⟨_, hb, rfl, fun _ => Nat.zero_le _⟩
          obtain ⟨_, _, _, _, _, _, _, _, hβ1⟩ := (g1.lat hr).loop _ hbo _ _ _ _ _ _ _ hb1
          obtain ⟨lo1, ho1, k1, k2, k3, k4, k5, k6, K2, g4, hβ2⟩ := goes_loop g2.hr (st' := .busy) (j' := p1) hb1
          refine ⟨w1.putObj (K1.β b) (.loop { lo1 with state := .busy, pending := p1 }), ?_, ?_⟩
          · rw [← hβ1]
            have := run_beginRound (P := E.P) ho1 k1
            rw [this, ← k2]
          have hS2 : SR w.heap.size K2 { s1 with h := { s1.h with bs := s1.h.bs.set b (.loop fid1 tmps1 ps1 assign1 body1 .busy p1) } } a1 (w1.putObj (K1.β b) (.loop { lo1 with state := .busy, pending := p1 })) :=
            ⟨g4.hr, esc_loop g2.esc hb1, g2.reg.mono (g4.lat g2.hr), g2.marks.goes g2.hr g4⟩
          have g14 := g1.trans g4
          have fin : ∀ x s2, evCode E call jmp true fid body { s1 with h := { s1.h with bs := s1.h.bs.set b (.loop fid1 tmps1 ps1 assign1 body1 .busy p1) } } = some (x, s2) →
              (∀ e a2 w2 K3, Goes K h.bs w K3 s2.h.bs w2 → EscR s2.h → ExR K3 s2.h.bs w2.heap x e → (∀ f t ps as_ bo st j, s2.h.bs[b]? = some (.loop f t ps as_ bo st j) → K.β b = K3.β b) → roundPost E.P (K.β b) (DoneR K h w r h') e a2 w2) →
              body.wpIn (fence (some (K.β b))) 0 E.P (roundPost E.P (K.β b) (DoneR K h w r h')) a1 (w1.putObj (K1.β b) (.loop { lo1 with state := .busy, pending := p1 })) := by
            intro x s2 hx2 hfin
            refine wpIn_mono (code_sound hE hc hj (ro := some (K.β b)) rfl fid body _ x s2 _ K2 _ _ hx2 hS2) fun e a2 w2 hp => ?_
            obtain ⟨K3, g5, g6, g7⟩ := hp
            refine hfin e a2 w2 K3 (g14.trans g5) g6.esc g7 fun f t ps as_ bo st j hb2 => ?_
            obtain ⟨_, _, _, _, _, _, _, _, hβ3⟩ := ((g14.trans g5).lat hr).loop _ hbo _ _ _ _ _ _ _ hb2
            exact hβ3.symm
          split at hev
          · rename_i s2 hx2
            refine fin _ _ hx2 fun e a2 w2 K3 g5 g6 g7 hl => ?_
            cases g7.normal
            exact endR_sound rfl rfl g5 g6 hblt hev hl
          · rename_i s2 hx2
            refine fin _ _ hx2 fun e a2 w2 K3 g5 g6 g7 hl => ?_
            cases g7.ret
            exact endR_sound rfl rfl g5 g6 hblt hev hl
          · rename_i id s2 hx2
            refine fin _ _ hx2 fun e a2 w2 K3 g5 g6 g7 hl => ?_
            cases g7.exit
            exact endR_sound rfl rfl g5 g6 hblt hev hl
          · rename_i l' s2 hx2
            refine fin _ _ hx2 fun e a2 w2 K3 g5 g6 g7 hl => ?_
            cases g7.goto
            exact endR_sound rfl rfl g5 g6 hblt hev hl
          · cases hev
        · cases hev
      · cases hev
    · cases hev
  · cases hev

/-- What functions are known to hand back. -/
def SumOk (E : Env) : Prop := ∀ (f : FuncId) (args : List AV) (v : AV), E.sum f args = some v → v.clean = true → E.ok f = true →
  ∀ (K : KS) (w : World) (vals : List Value), HR K [] w.heap → RepVL K [] w.heap args vals → Calls E.P f vals.toArray w (DoneR K ⟨[], []⟩ w (.ret v) ⟨[], []⟩)

theorem done_clean {K : KS} {h hx : H} {w : World} {r : AR} (hr : HR K h.bs w.heap) (he : EscR h) {r' : AR} (hrc : (∃ v, r = .ret v ∧ v.clean = true ∧ r' = .ret v) ∨ (∃ v, r = .panic v ∧ v.clean = true ∧ r' = .panic v)) {e : Ending} {w' : World} (hd : DoneR K ⟨[], []⟩ w r hx e w') : DoneR K h w r' h e w' := by
  obtain ⟨K', g1, g2, g3⟩ := hd
  have g4 := clean_goes hr g1
  refine ⟨_, g4, he, ?_⟩
  rcases hrc with ⟨v, rfl, hc, rfl⟩ | ⟨v, rfl, hc, rfl⟩
  · cases e with
    | returned u => exact .clean (g3.toP hc)
    | _ => exact g3.elim
  · cases e with
    | panicked chain =>
      obtain ⟨u, h1, h2⟩ := g3
      exact ⟨u, h1, .clean (h2.toP hc)⟩
    | _ => exact g3.elim
theorem done_trans {K K1 : KS} {h : H} {bs1 : List AB} {w : World} (g : Goes K h.bs w K1 bs1 w) {r : AR} {h' : H} {e : Ending} {w' : World} (hd : DoneR K1 { h with bs := bs1 } w r h' e w') : DoneR K h w r h' e w' := by
  obtain ⟨K', g1, g2, g3⟩ := hd
  exact ⟨K', g.trans g1, g2, g3⟩
/-- A call, one deeper. -/
theorem step0_sound (hE : EnvOk E) (hs : SumOk E) {call : CallF} (hc : CallSound E.P call) {jmp : JumpF} (hj : JumpSound E.P jmp) : CallSound E.P (stepCall0 E call jmp) := by
  intro from_ fv as_ h r h' K w fval vals hev hr he hf ha
  unfold stepCall0 at hev
  split at hev
  · rename_i f x y
    dsimp only at hev
    obtain ⟨va, vb, rfl, hxa, hyb⟩ := hf.inv_fn
    -- the arguments, sealed
    have main : ∀ (as1 : List AV) (bs1 : List AB) (K1 : KS), Goes K h.bs w K1 bs1 w → EscR { h with bs := bs1 } → RepVL K1 bs1 w.heap as1 vals →
        (if E.ok f then
          match E.P.funcs[f]? with
          | none => none
          | some fn => match fn.body with
            | none => none
            | some c =>
              if cleanL (x ++ as1 ++ y) && !E.raw from_ f then
                match E.sum f (x ++ as1 ++ y) with
                | some v => if v.clean then some (AR.ret v, ({ h with bs := bs1 } : H)) else none
                | none =>
                match evBody E call jmp false f fn c (x ++ as1 ++ y) ⟨[], []⟩ with
                | some (.ret v, _) => if v.clean then some (.ret v, { h with bs := bs1 }) else none
                | some (.panic v, _) => if v.clean then some (.panic v, { h with bs := bs1 }) else none
                | none => none
              else evBody E call jmp (E.raw from_ f) f fn c (x ++ as1 ++ y) { h with bs := bs1 }
        else none) = some (r, h') → MCall E.P (.func (.func f) va.toArray vb.toArray) vals.toArray w (DoneR K h w r h') := by
      intro as1 bs1 K1 g1 e1 ha1 hev
      split at hev
      · rename_i hok
        have hargs : RepVL K1 bs1 w.heap (x ++ as1 ++ y) (va ++ vals ++ vb) := ((RepVL.mono (g1.lat hr) hxa).app ha1).app (RepVL.mono (g1.lat hr) hyb)
        have hve : va.toArray ++ vals.toArray ++ vb.toArray = (va ++ vals ++ vb).toArray := by simp
        refine .inl ⟨f, va.toArray, vb.toArray, rfl, hE.ok f hok _ _, ?_⟩
        rw [hve]
        split at hev
        · cases hev
        · rename_i fn hfn
          split at hev
          · cases hev
          · rename_i c hbody
            split at hev
            · rename_i hcl
              simp only [Bool.and_eq_true] at hcl
              have hargs0 : RepVL K1 [] w.heap (x ++ as1 ++ y) (va ++ vals ++ vb) := .of_clean (hargs.toP hcl.1)
              split at hev
              · rename_i v hsum
                split at hev
                · rename_i hv
                  cases hev
                  refine (hs f _ v hsum hv hok K1 w _ (hr_nil g1.hr) hargs0).mono fun e w' hd => ?_
                  exact done_trans g1 (done_clean g1.hr e1 (.inl ⟨v, rfl, hv, rfl⟩) hd)
                · cases hev
              · split at hev
                · rename_i v hx hb
                  split at hev
                  · rename_i hv
                    cases hev
                    refine (body_sound hE hc hj hfn hbody hb (hr_nil g1.hr) esc_nil hargs0).mono fun e w' hd => ?_
                    exact done_trans g1 (done_clean g1.hr e1 (.inl ⟨v, rfl, hv, rfl⟩) hd)
                  · cases hev
                · rename_i v hx hb
                  split at hev
                  · rename_i hv
                    cases hev
                    refine (body_sound hE hc hj hfn hbody hb (hr_nil g1.hr) esc_nil hargs0).mono fun e w' hd => ?_
                    exact done_trans g1 (done_clean g1.hr e1 (.inr ⟨v, rfl, hv, rfl⟩) hd)
                  · cases hev
                · cases hev
            · exact (body_sound hE hc hj hfn hbody hev g1.hr e1 hargs).mono fun e w' hd => done_trans g1 hd
      · cases hev
    cases hraw : E.raw from_ f with
    | true =>
      rw [hraw] at hev main
      simp only [if_true] at hev
      exact main as_ h.bs K (Goes.refl hr) he ha hev
    | false =>
      rw [hraw] at hev main
      simp only [Bool.false_eq_true, if_false] at hev
      obtain ⟨K1, s1, s2⟩ := argsA_sound hr as_ ha
      exact main _ _ K1 s1.goes (s1.top.esc he) s2 hev
  · rename_i b
    exact yield_sound hE hc hj hev hr he ha hf
  · cases hev
/-- What ran on a heap of its own, of values that were lent. -/
theorem lent_goes {K K1 : KS} {J : Nat → Prop} {bs bs1 : List AB} {w w' : World} (hr : HR K bs w.heap) (hg : Goes { K with I := J } [] w K1 bs1 w') : Goes K bs w K bs w' := by
  have hno : ∀ c, ¬ Img { K with I := J } [] c := fun c hc => by
    obtain ⟨b, x, hx, _⟩ := hc
    simp at hx
  have htr : Tr K bs w.heap K bs w'.heap :=
    { size := hg.tr.size
      keep := fun c hc _ => hg.tr.keep c hc (hno c)
      imono := fun _ h => h
      inew := fun _ h => .inl h
      img := fun c hc => .inl hc
      le := fun b x' _ hx hl => ⟨x', hx, .inr ⟨hl, kin_refl hl, Nat.le_refl _, fun _ => ⟨rfl, rfl⟩⟩⟩
      void := fun b x' _ hx hv => ⟨x', hx, hv⟩
      len := Nat.le_refl _ }
  refine ⟨htr, ⟨hr.inj, ?_, fun c hc => Nat.lt_of_lt_of_le (hr.ilt c hc) hg.tr.size, hr.wr, hr.nwr⟩, hg.os, hg.tape, hg.output⟩
  intro b x hx hl
  obtain ⟨o, ho, hR⟩ := hr.obj b x hx hl
  exact ⟨o, (hg.tr.keep _ (hr.lt b x hx hl) (hno _)).trans ho, hR.mono (htr.lat hr)⟩
theorem clean_app {a b c : List AV} (h : cleanL (a ++ b ++ c) = true) : cleanL a = true ∧ cleanL b = true ∧ cleanL c = true := by
  have key : ∀ a b : List AV, cleanL (a ++ b) = true → cleanL a = true ∧ cleanL b = true := by
    intro a b h
    induction a with
    | nil => exact ⟨rfl, h⟩
    | cons v r ih =>
      rw [List.cons_append, cleanL, Bool.and_eq_true] at h
      rw [cleanL, Bool.and_eq_true]
      exact ⟨⟨h.1, (ih h.2).1⟩, (ih h.2).2⟩
  obtain ⟨h1, h2⟩ := key _ _ h
  exact ⟨(key _ _ h1).1, (key _ _ h1).2, h2⟩
theorem step_sound (hE : EnvOk E) (hs : SumOk E) {call : CallF} (hc : CallSound E.P call) {jmp : JumpF} (hj : JumpSound E.P jmp) : CallSound E.P (stepCall E call jmp) := by
  have h0 := step0_sound hE hs hc hj
  intro from_ fv as_ h r h' K w fval vals hev hr he hf ha
  unfold stepCall at hev
  split at hev
  · rename_i f x y
    split at hev
    · split at hev
      · rename_i hcl
        split at hev
        · rename_i v hx hst
          split at hev
          · rename_i hfl
            cases hev
            obtain ⟨va, vb, rfl, hxa, hyb⟩ := hf.inv_fn
            obtain ⟨c1, c2, c3⟩ := clean_app hcl
            have hJ : HR { K with I := fun c => c < w.heap.size } [] w.heap :=
              ⟨fun b b' x x' h => by simp at h, fun b x h => by simp at h, fun c hc => hc, fun b x h => by simp at h, fun b c i h => by simp at h⟩
            have hm : ∀ c, K.I c → c < w.heap.size := hr.ilt
            have hf' : RepV { K with I := fun c => c < w.heap.size } [] w.heap (.fn f x y) (.func (.func f) va.toArray vb.toArray) :=
              .clean (.fn ((hxa.toP c1).mono hm fun _ _ => rfl) ((hyb.toP c3).mono hm fun _ _ => rfl))
            have ha' : RepVL { K with I := fun c => c < w.heap.size } [] w.heap (lendL 4 h.bs as_) vals := .of_clean (lendL_sound hr 4 as_ vals ha c2)
            refine (h0 from_ _ _ _ _ _ _ w _ vals hst hJ esc_nil hf' ha').mono fun e w' hd => ?_
            obtain ⟨K', g1, g2, g3⟩ := hd
            refine ⟨K, lent_goes hr g1, he, ?_⟩
            cases e with
            | returned u => exact .clean ((RepV.toP g3 (flat_clean v hfl)).flat hfl)
            | _ => exact g3.elim
          · cases hev
        · cases hev
      · exact h0 from_ _ as_ h r h' K w fval vals hev hr he hf ha
    · exact h0 from_ _ as_ h r h' K w fval vals hev hr he hf ha
  · exact h0 from_ _ as_ h r h' K w fval vals hev hr he hf ha

theorem none_sound (P : Program) : CallSound P (fun _ _ _ _ => none) := by
  intro from_ fv as_ h r h' K w fval vals hev
  cases hev
theorem all_sound (hE : EnvOk E) (hs : SumOk E) : ∀ n, CallSound E.P (evAll E n).1 ∧ JumpSound E.P (evAll E n).2
  | 0 => ⟨none_sound _, fun _ _ _ _ _ _ _ _ _ _ _ _ h => by cases h⟩
  | n + 1 => by
    obtain ⟨h1, h2⟩ := all_sound hE hs n
    exact ⟨step_sound hE hs h1 h2, fun ro rd fid c hrd => code_sound hE h1 h2 hrd fid c⟩
/-- THE ENGINE: what the abstract machine says of a call, the machine does. -/
theorem evCall_sound (hE : EnvOk E) (hs : SumOk E) (n : Nat) : CallSound E.P (evCall E n) := (all_sound hE hs n).1
end
end Go.Proofs.Ytnkeijebkpjdgaa.Ab
