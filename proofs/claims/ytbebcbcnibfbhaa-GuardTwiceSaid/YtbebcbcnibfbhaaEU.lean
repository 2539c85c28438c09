import Derived.Test.YtbebcbcnibfbhaaET
import Derived.LoopNIn
/- The engine, twenty-first text: code is sound: what is next, branches, loops, jumps. -/
namespace Go.Proofs.Ytbebcbcnibfbhaa.Ab
open Go

/-- What the machine does where the abstract one runs some code. -/
def CodeGood (P : Program) (ro : Option Nat) (c : Code) (f : ST → Option (AX × ST)) : Prop :=
  ∀ (s : ST) (x : AX) (s' : ST) (n0 : Nat) (K : KS) (a : Act) (w : World), f s = some (x, s') → SR n0 K s a w → c.wpIn (fence ro) 0 P (PostR n0 K s w x s') a w
def JumpSound (P : Program) (jmp : JumpF) : Prop := ∀ (ro : Option Nat) (rd : Bool) (fid : FuncId) (c : Code), rd = ro.isSome → CodeGood P ro c (jmp rd fid c)

section
variable {n0 : Nat} {K K1 : KS} {s s1 s' : ST} {w w1 : World} {x : AX}
theorem PostR.trans (hg : Goes K s.h.bs w K1 s1.h.bs w1) {e : Exit} {a' : Act} {w' : World} (h : PostR n0 K1 s1 w1 x s' e a' w') : PostR n0 K s w x s' e a' w' := by
  obtain ⟨K', h1, h2, h3⟩ := h
  exact ⟨K', hg.trans h1, h2, h3⟩
theorem ExR.normal {bs : List AB} {hp : Array Obj} {e : Exit} (h : ExR K bs hp .normal e) : e = .normal := by cases e <;> first | rfl | exact h.elim
theorem ExR.exit {bs : List AB} {hp : Array Obj} {i : Nat} {e : Exit} (h : ExR K bs hp (.exit i) e) : e = .exit i := by
  cases e <;> first | exact h.elim | skip
  have : i = _ := h
  rw [this]
theorem ExR.goto {bs : List AB} {hp : Array Obj} {i : Nat} {e : Exit} (h : ExR K bs hp (.goto i) e) : e = .goto i := by
  cases e <;> first | exact h.elim | skip
  have : i = _ := h
  rw [this]
theorem ExR.ret {bs : List AB} {hp : Array Obj} {e : Exit} (h : ExR K bs hp .ret e) : e = .ret := by cases e <;> first | rfl | exact h.elim
theorem ExR.not_normal {bs : List AB} {hp : Array Obj} (hx : ∀ (_ : x = .normal), False) (h : ExR K bs hp x .normal) : False := by
  cases x <;> first | exact h.elim | exact hx rfl
end

/-- The labels of a scope: the code goes on behind a label, so often. -/
def scopeIn (F : Fence) (n : Nat) (P : Program) (body : Code) (Q : Exit → Act → World → Prop) : Nat → Code → Act → World → Prop
  | 0, _, _, _ => False
  | m + 1, c, a, w => c.wpIn F n P (fun e a' w' => match e with
      | .goto l => match findLabel body l with
        | none => Q (.goto l) a' w'
        | some rest => scopeIn F n P body Q m rest a' w'
      | e => Q e a' w') a w
theorem stepR_scope {P : Program} {b : Frame} {a : Act} {k : List Item} {cs : List Frame} {w : World} {body : Code} :
    step P (lone (b.atR a (.code (.scope body) :: k)) cs w) = .next (lone (b.atR a (.code body :: .inScope body :: k)) cs w) :=
  step_lone_go (by simp [stepG, stepG.exec, Frame.atR])
theorem stepR_inScope {P : Program} {b : Frame} {a : Act} {k : List Item} {cs : List Frame} {w : World} {body : Code} :
    step P (lone (b.atR a (.inScope body :: k)) cs w) = .next (lone (b.atR a k) cs w) :=
  step_lone_go (by simp [stepG, stepG.exec, Frame.atR])
theorem wpIn_scope {F : Fence} {n : Nat} {P : Program} {body : Code} {Q : Exit → Act → World → Prop} {a : Act} {w : World} (m : Nat) (h : scopeIn F n P body Q m body a w) : (Code.scope body).wpIn F n P Q a w := by
  intro b k cs hro hb hr
  have key : ∀ m c a w, scopeIn F n P body Q m c a w →
      ∃ e a' w', Q e a' w' ∧ ArrivesIn (Machine.fenced P F) P (lone (b.atR a (.code c :: .inScope body :: k)) cs w) b k cs e a' w' := by
    intro m
    induction m with
    | zero => intro c a w h; exact h.elim
    | succ m ih =>
      intro c a w h
      obtain ⟨e, a₁, w₁, hq, harr⟩ := h b (.inScope body :: k) cs hro hb hr
      cases e with
      | normal => exact ⟨.normal, a₁, w₁, hq, StepsIn.trans harr (.one (fenced_calm hb hr rfl) stepR_inScope)⟩
      | exit id => exact ⟨.exit id, a₁, w₁, hq, harr⟩
      | goto l =>
        simp only at hq
        cases hf : findLabel body l with
        | none =>
          rw [hf] at hq
          have hx : gotoIn l (.inScope body :: k) = gotoIn l k := by simp [gotoIn, hf]
          exact ⟨.goto l, a₁, w₁, hq, fun k' hk => harr.1 k' (by rw [hx]; exact hk), fun hr' hk => harr.2 hr' (by rw [hx]; exact hk)⟩
        | some rest =>
          rw [hf] at hq
          have hx : gotoIn l (.inScope body :: k) = some (.code rest :: .inScope body :: k) := by simp [gotoIn, hf]
          obtain ⟨e₂, a₂, w₂, hq₂, harr₂⟩ := ih rest a₁ w₁ hq
          exact ⟨e₂, a₂, w₂, hq₂, .of_steps (harr.1 _ hx) harr₂⟩
      | ret => exact ⟨.ret, a₁, w₁, hq, harr⟩
      | panic ch => exact ⟨.panic ch, a₁, w₁, hq, harr⟩
      | outgrown => exact ⟨.outgrown, a₁, w₁, hq, harr⟩
  obtain ⟨e, a', w', hq, harr⟩ := key m body a w h
  exact ⟨e, a', w', hq, .of_steps (.one (fenced_calm hb hr rfl) stepR_scope) harr⟩

section
variable {n0 : Nat} {K0 K : KS} {bs0 : List AB} {w0 w : World} {s : ST} {a : Act}
theorem RegR.keep {bs : List AB} {hp : Array Obj} {r : RG} {v : Array Value} (h : RegR K bs hp r v) (ks : List Nat) : RegR K bs hp (r.keep ks) v :=
  h.weak (RG.keep_n r ks) fun j => (RG.keep_get r ks j).imp id fun h => h.1
/-- What is forgotten at a loop's head. -/
theorem norm_sound (ks : Option (List Nat)) {n : Nat} (hn : bs0.length ≤ n) (hg : Goes K0 bs0 w0 K s.h.bs w) (hS : SR n0 K s a w) :
    Goes K0 bs0 w0 K (s.norm ks n).h.bs w ∧ SR n0 K (s.norm ks n) a w := by
  unfold ST.norm
  split
  · exact ⟨hg, hS⟩
  · rename_i ks
    have plain : Goes K0 bs0 w0 K ({ s with tmps := s.tmps.keep ks } : ST).h.bs w ∧ SR n0 K { s with tmps := s.tmps.keep ks } a w :=
      ⟨hg, hS.hr, hS.esc, hS.reg.keep ks, hS.marks⟩
    split
    · exact plain
    · split
      · rename_i hk
        obtain ⟨h1, h2⟩ := hS.hr.cut hS.esc hk
        refine ⟨⟨hg.tr.cut (by omega), h1, hg.os, hg.tape, hg.output⟩, h1, h2, ?_, hS.marks⟩
        have hb : ∀ b, b < max n (s.tmps.topOf ks) → (s.h.bs.take (max n (s.tmps.topOf ks)))[b]? = s.h.bs[b]? := fun b hb => by rw [List.getElem?_take, if_pos hb]
        have hr := hS.reg.keep ks
        refine ⟨hr.1, fun j => ?_⟩
        rcases RG.keep_get s.tmps ks j with h | ⟨h, ht⟩
        · rw [h]; exact .ofHole _
        · exact (hr.2 j).near hb (by rw [h]; omega)
      · exact plain
end

section
variable {P : Program} {ro : Option Nat}
theorem loop_sound {b : Code} {f : ST → Option (AX × ST)} (hf : CodeGood P ro b f) (ks : Option (List Nat)) {n0 : Nat} {K0 : KS} {s0 : ST} {w0 : World} {x : AX} {s' : ST} (hr0 : HR K0 s0.h.bs w0.heap) :
    ∀ (m : Nat) (s : ST) (K : KS) (a : Act) (w : World), evLoop f (ST.norm ks s0.h.bs.length) m s = some (x, s') → Goes K0 s0.h.bs w0 K s.h.bs w → SR n0 K s a w →
      Code.roundsIn (fence ro) 0 P b (PostR n0 K0 s0 w0 x s') m a w
  | 0, s, K, a, w, h, _, _ => by simp [evLoop] at h
  | m + 1, s, K, a, w, h, hg, hS => by
    rw [roundsIn_succ]
    obtain ⟨hg1, hS1⟩ := norm_sound ks (Nat.le_refl _) hg hS
    simp only [evLoop] at h
    split at h
    · rename_i s1 hf1
      refine wpIn_mono (hf _ _ _ n0 K a w hf1 hS1) fun e a' w' hp => ?_
      obtain ⟨K', h1, h2, h3⟩ := hp
      cases h3.normal
      exact loop_sound hf ks hr0 m s1 K' a' w' h (hg1.trans h1) h2
    · rename_i r hnn
      refine wpIn_mono (hf _ _ _ n0 K a w h hS1) fun e a' w' hp => ?_
      have hp' := PostR.trans hg1 hp
      cases e with
      | normal =>
        obtain ⟨K', h1, h2, h3⟩ := hp
        exact (h3.not_normal fun e => hnn _ (by rw [h, e])).elim
      | _ => exact hp'
theorem jumps_sound {jmp : Code → ST → Option (AX × ST)} (hj : ∀ c, CodeGood P ro c (jmp c)) {body : Code} {n0 : Nat} {K0 : KS} {s0 : ST} {w0 : World} {x : AX} {s' : ST} :
    ∀ (m : Nat) (l : Nat) (s : ST) (K : KS) (a : Act) (w : World), evJumps jmp body m l s = some (x, s') → Goes K0 s0.h.bs w0 K s.h.bs w → SR n0 K s a w →
      match findLabel body l with
      | none => PostR n0 K0 s0 w0 x s' (.goto l) a w
      | some rest => scopeIn (fence ro) 0 P body (PostR n0 K0 s0 w0 x s') m rest a w
  | 0, l, s, K, a, w, h, _, _ => by simp [evJumps] at h
  | m + 1, l, s, K, a, w, h, hg, hS => by
    simp only [evJumps] at h
    split at h
    · rename_i hfl
      cases h
      simp only [hfl]
      exact ⟨K, hg, hS, rfl⟩
    · rename_i rest hfl
      simp only [hfl, scopeIn]
      split at h
      · rename_i l' s1 hj1
        refine wpIn_mono (hj rest _ _ _ n0 K a w hj1 hS) fun e a' w' hp => ?_
        obtain ⟨K', h1, h2, h3⟩ := hp
        cases h3.goto
        exact jumps_sound hj m l' s1 K' a' w' h (hg.trans h1) h2
      · rename_i r hnn
        refine wpIn_mono (hj rest _ _ _ n0 K a w h hS) fun e a' w' hp => ?_
        have hp' := PostR.trans hg hp
        cases e with
        | goto l1 =>
          obtain ⟨K', h1, h2, h3⟩ := hp
          exfalso
          cases x with
          | goto l2 => exact hnn l2 s' h
          | _ => exact h3
        | _ => exact hp'
end
end Go.Proofs.Ytbebcbcnibfbhaa.Ab
