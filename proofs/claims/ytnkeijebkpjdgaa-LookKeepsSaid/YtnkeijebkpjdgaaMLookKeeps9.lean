import Derived.Test.YtnkeijebkpjdgaaMLookKeeps8
import Derived.OrdersIn
set_option linter.unusedVariables false
set_option linter.unusedSimpArgs false
/- The engine, nineteenth text: regions that draw their order. -/
namespace Go.Proofs.Ytnkeijebkpjdgaa.Ab
open Go

section
variable {E : Env} {call : CallF} {fid : FuncId} {ops : Array Oper}

theorem opnd_congr {r r' : RG} {x : Operand} (h : ∀ t, x = .tmp t → r'.get t = r.get t) : opnd r' x = opnd r x := by
  cases x with
  | tmp t => exact h t rfl
  | _ => rfl
theorem wantedA_congr {r r' : RG} {o : Oper} (h : ∀ t ∈ usesT ops o, r'.get t = r.get t) : wantedA ops r' o = wantedA ops r o := by
  unfold wantedA
  cases hg : o.guard with
  | none => rfl
  | some p =>
    obtain ⟨j, want⟩ := p
    simp only
    cases hd : (ops[j]?).bind (·.dst) with
    | none => rfl
    | some d =>
      simp only
      rw [h d (by unfold usesT; rw [hg]; simp only [List.mem_append]; right; rw [hd]; simp)]
theorem uses_opnd {o : Oper} {t : Tmp} (h : Operand.tmp t ∈ o.op.operands) : t ∈ usesT ops o := by
  unfold usesT
  rw [List.mem_append]
  left
  rw [List.mem_filterMap]
  exact ⟨.tmp t, by simpa using h, rfl⟩
theorem recCall_congr {f : AV} {as_ : List AV} {h h' : H} {c : Rec} (hc : recCall E call fid f as_ h = some c) (hh : h' = h ∨ RL.all ∉ c.reads) : recCall E call fid f as_ h' = some c := by
  rcases hh with rfl | hh
  · exact hc
  · unfold recCall at hc ⊢
    split at hc
    · split at hc
      · rename_i hcl
        rw [if_pos hcl]
        exact hc
      · split at hc
        · cases hc; exact absurd (by simp) hh
        · cases hc
    · split at hc
      · cases hc; exact absurd (by simp) hh
      · cases hc
theorem recCall_w {f : AV} {as_ : List AV} {h : H} {c : Rec} (hc : recCall E call fid f as_ h = some c) {w : WL} (hw : c.w = .w w) : w = .none := by
  unfold recCall at hc
  split at hc
  · split at hc
    · split at hc
      · split at hc
        · cases hc; cases hw; rfl
        · cases hc
      · cases hc
    · split at hc
      · cases hc; cases hw
      · cases hc
  · split at hc
    · cases hc; cases hw
    · cases hc
/-- A new block goes where none was. -/
theorem recOf_new {nid : Nat} {o : Oper} {s : ST} {c : Rec} (hc : recOf E call fid ops nid o s = some c) {x : AB} (hw : c.w = .w (.new x)) : nid < s.h.bs.length := by
  unfold recOf at hc
  split at hc
  · cases hc; cases hw
  · cases hc
  · split at hc
    · exact absurd (recCall_w hc hw) (by simp)
    · cases hc
    · split at hc
      · rename_i hv
        exact (List.getElem?_eq_some_iff.1 hv).1
      · cases hc
theorem recOf_congr {nid : Nat} {o : Oper} {s s' : ST} {c : Rec} (hc : recOf E call fid ops nid o s = some c) (ht : ∀ t ∈ usesT ops o, s'.tmps.get t = s.tmps.get t)
    (hh : s'.h = s.h ∨ ∀ x ∈ c.reads, agree s.h.bs s'.h.bs x) : recOf E call fid ops nid o s' = some c := by
  have hρ : ∀ x ∈ o.op.operands, opnd s'.tmps x = opnd s.tmps x := fun x hx => opnd_congr fun t e => ht t (uses_opnd (e ▸ hx))
  have hw := wantedA_congr (ops := ops) (r := s.tmps) (r' := s'.tmps) (o := o) ht
  unfold recOf at hc ⊢
  rw [hw]
  split at hc
  · exact hc
  · cases hc
  · cases hop : o.op with
    | call cl =>
      obtain ⟨callee, args, ts⟩ := cl
      cases callee with
      | value f =>
        rw [hop] at hc hρ
        simp only at hc ⊢
        simp only [Op.operands, Call.operands] at hρ
        rw [hρ f (by simp)]
        have e : args.toList.map (opnd s'.tmps) = args.toList.map (opnd s.tmps) := List.map_congr_left fun x hx => hρ x (by simp at hx; simp [hx])
        rw [e]
        refine recCall_congr hc ?_
        rcases hh with h1 | h1
        · exact .inl h1
        · exact .inr fun hm => h1 _ hm
      | builtin b =>
        rw [hop] at hc hρ
        simp only at hc ⊢
        rw [evOp_congr hρ]
        split at hc
        · rename_i hv
          split at hc
          · rename_i v w hr
            cases hc
            rcases hh with h1 | h1
            · rw [h1, hv, hr]
            · have e1 := h1 _ (List.mem_cons_self ..)
              have e2 : s'.h.bs[nid]? = some .void := (show s'.h.bs[nid]? = s.h.bs[nid]? from e1).trans hv
              obtain ⟨g1, g2⟩ := run_agree _ _ hr fun x hx => h1 x (List.mem_cons_of_mem _ hx)
              rw [e2, g1, g2]
          · cases hc
        · cases hc
      | invoke r m =>
        rw [hop] at hc
        simp only at hc
        split at hc
        · split at hc
          · rename_i v w hr
            exact (fail_run hr).elim
          · cases hc
        · cases hc
    | panic x =>
      rw [hop] at hc
      cases hc
    | _ =>
      rw [hop] at hc hρ
      simp only at hc ⊢
      rw [evOp_congr hρ]
      split at hc
      · rename_i hv
        split at hc
        · rename_i v w hr
          cases hc
          rcases hh with h1 | h1
          · rw [h1, hv, hr]
          · have e1 := h1 _ (List.mem_cons_self ..)
            have e2 : s'.h.bs[nid]? = some .void := (show s'.h.bs[nid]? = s.h.bs[nid]? from e1).trans hv
            obtain ⟨g1, g2⟩ := run_agree _ _ hr fun x hx => h1 x (List.mem_cons_of_mem _ hx)
            rw [e2, g1, g2]
        · cases hc
      · cases hc

/-! Runs, record by record. -/
abbrev Ent := Nat × Rec × H
def opAt (ops : Array Oper) (e : Ent) : Oper := ops.getD e.1 default
def Ent.step (ops : Array Oper) (base : Nat) (e : Ent) (s : ST) : ST := e.2.1.app (base + e.1) (opAt ops e).dst s
structure Fits (E : Env) (call : CallF) (fid : FuncId) (ops : Array Oper) (base : Nat) (s : ST) (e : Ent) : Prop where
  rec_ : recOf E call fid ops (base + e.1) (opAt ops e) s = some e.2.1
  heap : ∀ h', e.2.1.w = .heap h' → s.h = e.2.2
def RunP (E : Env) (call : CallF) (fid : FuncId) (ops : Array Oper) (base : Nat) : ST → List Ent → ST → Prop
  | s, [], s' => s = s'
  | s, e :: r, s' => Fits E call fid ops base s e ∧ RunP E call fid ops base (e.step ops base s) r s'
structure Apart (ops : Array Oper) (base : Nat) (a b : Ent) : Prop where
  t1 : apartT ops (opAt ops a) (opAt ops b) = true
  t2 : apartT ops (opAt ops b) (opAt ops a) = true
  r1 : ∀ r ∈ b.2.1.reads, apartW (base + a.1) a.2.2 a.2.1.w r = true
  r2 : ∀ r ∈ a.2.1.reads, apartW (base + b.1) b.2.2 b.2.1.w r = true
  ww : apartWW (base + a.1) (base + b.1) a.2.1.w b.2.1.w = true
theorem apartT_get {o p : Oper} (h : apartT ops o p = true) {r : RG} {v : AV} {t : Tmp} (ht : t ∈ usesT ops p) : (putT r o.dst v).get t = r.get t := by
  unfold apartT at h
  cases hd : o.dst with
  | none => rfl
  | some d =>
    rw [hd] at h
    simp only [Bool.and_eq_true, Bool.not_eq_true', bne_iff_ne] at h
    refine RG.get_put_other r v fun e => ?_
    subst e
    have := h.1
    simp at this
    exact this ht
theorem apartT_dst {o p : Oper} (h : apartT ops o p = true) : ∀ i, o.dst = some i → p.dst ≠ some i := by
  unfold apartT at h
  intro i hi
  rw [hi] at h
  simp only [Bool.and_eq_true, bne_iff_ne] at h
  exact h.2
theorem ww_heap {na nb : Nat} {a : WR} {h : H} (hw : apartWW na nb a (.heap h) = true) : a = .w .none := by
  cases a with
  | w x => cases x with
    | none => rfl
    | _ => simp [apartWW] at hw
  | heap x => simp [apartWW] at hw
theorem ww_heap' {na nb : Nat} {a : WR} {h : H} (hw : apartWW na nb (.heap h) a = true) : a = .w .none := by
  cases a with
  | w x => cases x with
    | none => rfl
    | _ => simp [apartWW] at hw
  | heap x => simp [apartWW] at hw
/-- One of two that are apart, ahead of the other. -/
theorem fits_back {base : Nat} {s : ST} {a b : Ent} (hap : Apart ops base a b) (ha : Fits E call fid ops base s a) (hb : Fits E call fid ops base (a.step ops base s) b) : Fits E call fid ops base s b := by
  refine ⟨?_, fun h' he => ?_⟩
  · refine recOf_congr hb.rec_ (fun t ht => (apartT_get hap.t1 ht).symm) ?_
    by_cases hs : a.2.1.w.app (base + a.1) s.h = s.h
    · exact .inl hs.symm
    · refine .inr fun x hx => ?_
      rcases apart_agree (σ := s.h) (hap.r1 x hx) (fun y hy => recOf_new ha.rec_ hy) ha.heap with h1 | h1
      · exact absurd h1 hs
      · exact h1.2
  · have := hb.heap h' he
    have hw := hap.ww
    rw [he] at hw
    have hn := ww_heap hw
    rw [← this]
    show s.h = a.2.1.w.app (base + a.1) s.h
    rw [hn]
    rfl
theorem fits_on {base : Nat} {s : ST} {a b : Ent} (hap : Apart ops base a b) (ha : Fits E call fid ops base s a) (hb : Fits E call fid ops base s b) : Fits E call fid ops base (b.step ops base s) a := by
  refine ⟨?_, fun h' he => ?_⟩
  · refine recOf_congr ha.rec_ (fun t ht => apartT_get hap.t2 ht) ?_
    by_cases hs : b.2.1.w.app (base + b.1) s.h = s.h
    · exact .inl hs
    · refine .inr fun x hx => ?_
      rcases apart_agree (σ := s.h) (hap.r2 x hx) (fun y hy => recOf_new hb.rec_ hy) hb.heap with h1 | h1
      · exact absurd h1 hs
      · exact h1.1
  · have hw := hap.ww
    rw [he] at hw
    have hn := ww_heap' hw
    rw [← ha.heap h' he]
    show b.2.1.w.app (base + b.1) s.h = s.h
    rw [hn]
    rfl
theorem step_comm {base : Nat} {s : ST} {a b : Ent} (hap : Apart ops base a b) (ha : Fits E call fid ops base s a) (hb : Fits E call fid ops base s b) : b.step ops base (a.step ops base s) = a.step ops base (b.step ops base s) := by
  have ht : putT (putT s.tmps (opAt ops a).dst a.2.1.v) (opAt ops b).dst b.2.1.v = putT (putT s.tmps (opAt ops b).dst b.2.1.v) (opAt ops a).dst a.2.1.v := putT_comm _ _ _ (apartT_dst hap.t1)
  have hh : b.2.1.w.app (base + b.1) (a.2.1.w.app (base + a.1) s.h) = a.2.1.w.app (base + a.1) (b.2.1.w.app (base + b.1) s.h) := by
    have hw := hap.ww
    cases haw : a.2.1.w with
    | heap h =>
      rw [haw] at hw
      rw [ww_heap' hw]
      rfl
    | w x =>
      cases hbw : b.2.1.w with
      | heap h =>
        rw [hbw] at hw
        have := ww_heap hw
        rw [haw] at this
        cases this
        rfl
      | w y =>
        rw [haw, hbw] at hw
        exact app_comm (fun z hz => recOf_new ha.rec_ (haw.trans (by rw [hz]))) (fun z hz => recOf_new hb.rec_ (hbw.trans (by rw [hz]))) hw
  show (⟨_, _⟩ : ST) = ⟨_, _⟩
  rw [show (Ent.step ops base a s) = ⟨putT s.tmps (opAt ops a).dst a.2.1.v, a.2.1.w.app (base + a.1) s.h⟩ from rfl, show (Ent.step ops base b s) = ⟨putT s.tmps (opAt ops b).dst b.2.1.v, b.2.1.w.app (base + b.1) s.h⟩ from rfl]
  exact congr (congrArg ST.mk ht) hh
/-- One that is apart from all that stand ahead of it may come first. -/
theorem run_front {base : Nat} {b : Ent} {r : List Ent} {s' : ST} : ∀ (l : List Ent) (s : ST), (∀ a ∈ l, Apart ops base a b) → RunP E call fid ops base s (l ++ b :: r) s' → RunP E call fid ops base s (b :: (l ++ r)) s'
  | [], s, _, h => h
  | a :: l, s, hap, h => by
    obtain ⟨ha, h⟩ := h
    obtain ⟨hb, h⟩ := run_front l _ (fun x hx => hap x (List.mem_cons_of_mem _ hx)) h
    have hab := hap a (List.mem_cons_self ..)
    have hb' := fits_back hab ha hb
    refine ⟨hb', fits_on hab ha hb', ?_⟩
    rw [← step_comm hab ha hb']
    exact h
end
end Go.Proofs.Ytnkeijebkpjdgaa.Ab
/- The engine, twentieth text: regions that draw their order are sound. -/
namespace Go.Proofs.Ytnkeijebkpjdgaa.Ab
open Go

theorem hr_nil {K : KS} {bs : List AB} {hp : Array Obj} (hr : HR K bs hp) : HR K [] hp :=
  ⟨fun b b' x x' h => by simp at h, fun b x h => by simp at h, hr.ilt, fun b x h => by simp at h, fun b c i h => by simp at h⟩
theorem esc_nil : EscR ⟨[], []⟩ := fun b x h => by simp at h
/-- What ran on a heap of its own leaves the blocks of another one as they are. -/
theorem clean_goes {K K1 : KS} {bs bs1 : List AB} {w w' : World} (hr : HR K bs w.heap) (hg : Goes K [] w K1 bs1 w') : Goes K bs w { I := K1.I, β := K.β, κ := K.κ } bs w' := by
  have hno : ∀ c, ¬ Img K [] c := fun c hc => by
    obtain ⟨b, x, hx, _⟩ := hc
    simp at hx
  have htr : Tr K bs w.heap { I := K1.I, β := K.β, κ := K.κ } bs w'.heap :=
    { size := hg.tr.size
      keep := fun c hc _ => hg.tr.keep c hc (hno c)
      imono := hg.tr.imono
      inew := fun c hc => by
        rcases hg.tr.inew c hc with h | h | h
        · exact .inl h
        · exact .inr (.inl h)
        · exact (hno c h).elim
      img := fun c hc => .inl hc
      le := fun b x' _ hx hl => ⟨x', hx, .inr ⟨hl, kin_refl hl, Nat.le_refl _, fun _ => ⟨rfl, rfl⟩⟩⟩
      void := fun b x' _ hx hv => ⟨x', hx, hv⟩
      len := Nat.le_refl _ }
  refine ⟨htr, ⟨hr.inj, ?_, hg.hr.ilt, ?_, ?_⟩, hg.os, hg.tape, hg.output⟩
  · intro b x hx hl
    obtain ⟨o, ho, hR⟩ := hr.obj b x hx hl
    exact ⟨o, (hg.tr.keep _ (hr.lt b x hx hl) (hno _)).trans ho, hR.mono (htr.lat hr)⟩
  · intro b x hx hw hI
    rcases hg.tr.inew _ hI with h | h | h
    · exact hr.wr b x hx hw h
    · have h1 := hr.lt b x hx (wrt_live hw)
      have h2 : w.heap.size ≤ K.β b := h
      omega
    · exact hno _ h
  · intro b c i hx hw
    obtain ⟨h1, h2⟩ := hr.nwr b c i hx hw
    exact ⟨hg.tr.imono _ h1, h2⟩

section
variable {E : Env} {call : CallF} {fid : FuncId} {ops : Array Oper}
theorem recCall_sound (hc : CallSound E.P call) {K : KS} {h : H} {w : World} (hr : HR K h.bs w.heap) (he : EscR h) {f : AV} {as_ : List AV} {fval : Value} {vals : List Value} (hf : RepV K h.bs w.heap f fval) (ha : RepVL K h.bs w.heap as_ vals) {c : Rec} (hrec : recCall E call fid f as_ h = some c) (nid : Nat) :
    MCall E.P fval vals.toArray w fun e w' => ∃ u K', e = .returned u ∧ Goes K h.bs w K' (c.w.app nid h).bs w' ∧ EscR (c.w.app nid h) ∧ RepV K' (c.w.app nid h).bs w'.heap c.v u := by
  have direct : ∀ v h', call fid f as_ h = some (.ret v, h') → MCall E.P fval vals.toArray w fun e w' => ∃ u K', e = .returned u ∧ Goes K h.bs w K' h'.bs w' ∧ EscR h' ∧ RepV K' h'.bs w'.heap v u := by
    intro v h' hcl
    refine (hc _ _ _ _ _ _ _ _ _ _ hcl hr he hf ha).mono fun e w' hd => ?_
    obtain ⟨K', hg, hesc, hend⟩ := hd
    cases e with
    | returned u => exact ⟨u, K', rfl, hg, hesc, hend⟩
    | panicked chain => exact hend.elim
    | outgrown => exact hend.elim
  unfold recCall at hrec
  split at hrec
  · rename_i g x y
    split at hrec
    · rename_i hcl
      simp only [Bool.and_eq_true] at hcl
      split at hrec
      · rename_i v h' hcall
        split at hrec
        · rename_i hv
          cases hrec
          have hcln := hcl.1
          rw [cleanL_app, cleanL_app, Bool.and_eq_true, Bool.and_eq_true] at hcln
          have hf' : RepV K [] w.heap (.fn g x y) fval := .clean (hf.toP (by simp [AV.clean, hcln.1.1, hcln.2]))
          have ha' : RepVL K [] w.heap as_ vals := .of_clean (ha.toP hcln.1.2)
          refine (hc _ _ _ _ _ _ K w _ _ hcall (hr_nil hr) esc_nil hf' ha').mono fun e w' hd => ?_
          obtain ⟨K', hg, hesc, hend⟩ := hd
          cases e with
          | returned u => exact ⟨u, _, rfl, clean_goes hr hg, he, .clean (hend.toP hv)⟩
          | panicked chain => exact hend.elim
          | outgrown => exact hend.elim
        · cases hrec
      · cases hrec
    · split at hrec
      · rename_i v h' hcall
        cases hrec
        exact direct v h' hcall
      · cases hrec
  · split at hrec
    · rename_i v h' hcall
      cases hrec
      exact direct v h' hcall
    · cases hrec
/-- An operation of a region that draws its order. -/
theorem rec_sound (hE : EnvOk E) (hc : CallSound E.P call) {ro : Option Nat} {base i : Nat} {o : Oper} (hi : ops[i]? = some o) {n0 : Nat} {K : KS} {s : ST} {a : Act} {w : World} (hS : SR n0 K s a w) {c : Rec} (hrec : recOf E call fid ops (base + i) o s = some c)
    {next : Act → World → Prop} {Q : Exit → Act → World → Prop} (hnext : ∀ K' a' w', Goes K s.h.bs w K' (c.app (base + i) o.dst s).h.bs w' → SR n0 K' (c.app (base + i) o.dst s) a' w' → next a' w') :
    wpOpIn (fence ro) 0 E.P ops Q i next a w := by
  unfold wpOpIn
  rw [hi]
  simp only
  have hρ := opnd_rep hS.reg
  unfold recOf at hrec
  split at hrec
  · rename_i hw
    cases hrec
    rw [wanted_sound hS.reg hw]
    exact ⟨fun _ _ => trivial, hnext K _ w (Goes.refl hS.hr) (hS.skip o.dst)⟩
  · cases hrec
  · rename_i hw
    rw [wanted_sound hS.reg hw, if_pos rfl]
    refine ⟨fun _ _ => trivial, ?_⟩
    have plain : (∀ (w1 : WL) v, (evOp E.P E.flat (base + i) o.op (opnd s.tmps)).run s.h.bs = some (v, w1) → s.h.bs[base + i]? = some .void →
        (∀ K' a' w', Goes K s.h.bs w K' (s.h.app (base + i) w1).bs w' → SR n0 K' { tmps := putT s.tmps o.dst v, h := s.h.app (base + i) w1 } a' w' → next a' w') →
        o.uponIn (fence ro) 0 E.P a next Q ((o.semAt (fence ro).round a.eval).run E.P w)) := by
      intro w1 v hm hv hn
      have hnd : ∀ c, o.op ≠ .defer c := by
        intro c hc
        rw [hc] at hm
        exact fail_run hm
      rw [Oper.semAt_eq _ _ _ hnd]
      obtain ⟨u, w', K', h1, h2, h3⟩ := evOp_sound hS.hr (.inr hv) hE.flat hρ hm
      rw [← app_bs] at h2 h3
      exact good_upon h1 (hn K' _ _ h2 (put_sr hS h2 (esc_app hS.esc h2.hr) h3 _))
    cases hop : o.op with
    | call cl =>
      obtain ⟨callee, args, ts⟩ := cl
      cases callee with
      | value f =>
        rw [hop] at hrec
        simp only at hrec
        rw [Oper.semAt_eq _ _ _ (by rw [hop]; intro c hc; cases hc)]
        have hex : execOp a.eval o = (do let d ← Deferred.ofValue (a.eval f) (args.map a.eval); invoke d.target d.args : Sem Next) := by
          unfold execOp
          rw [hop]
          rfl
        rw [hex]
        have hvals : RepVL K s.h.bs w.heap (args.toList.map (opnd s.tmps)) (args.map a.eval).toList := by
          rw [Array.toList_map]
          exact RepVL.map fun x _ => hρ x
        have hM := recCall_sound hc hS.hr hS.esc (hρ f) hvals hrec (base + i)
        rw [Array.toArray_toList] at hM
        refine uponIn_call (hM.mono fun e w' he => ?_)
        obtain ⟨u, K', rfl, hg, hesc, hR⟩ := he
        exact hnext K' _ _ hg (put_sr hS hg hesc hR _)
      | builtin b =>
        rw [hop] at hrec
        simp only at hrec
        split at hrec
        · rename_i hv
          split at hrec
          · rename_i v w1 hm
            cases hrec
            exact plain w1 v (by rw [hop]; exact hm) hv hnext
          · cases hrec
        · cases hrec
      | invoke r m =>
        rw [hop] at hrec
        simp only at hrec
        split at hrec
        · split at hrec
          · rename_i v w hr
            exact (fail_run hr).elim
          · cases hrec
        · cases hrec
    | panic x =>
      rw [hop] at hrec
      cases hrec
    | _ =>
      rw [hop] at hrec
      simp only at hrec
      split at hrec
      · rename_i hv
        split at hrec
        · rename_i v w1 hm
          cases hrec
          exact plain w1 v (by rw [hop]; exact hm) hv hnext
        · cases hrec
      · cases hrec

/-! Who must come before whom. -/
theorem before_push (l : List Oper) : ∀ (acc : Array Nat) (k : Nat), k < acc.size →
    (l.foldl (fun acc (o : Oper) => acc.push (o.after.foldl (fun s e => if Region.binds .any e then s ||| 2 ^ e.on ||| acc.getD e.on 0 else s) 0)) acc).getD k 0 = acc.getD k 0 := by
  induction l with
  | nil => intros; rfl
  | cons o l ih =>
    intro acc k hk
    rw [List.foldl_cons, ih _ k (by simp; omega)]
    rw [Array.getD_eq_getD_getElem?, Array.getElem?_push, if_neg (by omega), ← Array.getD_eq_getD_getElem?]
theorem or_fold_bit (acc : Array Nat) : ∀ (l : List Edge) (s k : Nat), (l.foldl (fun s e => if Region.binds .any e then s ||| 2 ^ e.on ||| acc.getD e.on 0 else s) s).testBit k = true →
    s.testBit k = true ∨ ∃ e ∈ l, Region.binds .any e = true ∧ (e.on = k ∨ (acc.getD e.on 0).testBit k = true)
  | [], s, k, h => .inl h
  | e :: l, s, k, h => by
    rw [List.foldl_cons] at h
    rcases or_fold_bit acc l _ k h with h1 | ⟨e', h1, h2⟩
    · split at h1
      · rename_i hb
        rw [Nat.testBit_or, Nat.testBit_or, Nat.testBit_two_pow] at h1
        simp only [Bool.or_eq_true, decide_eq_true_eq] at h1
        rcases h1 with (h1 | h1) | h1
        · exact .inl h1
        · exact .inr ⟨e, List.mem_cons_self .., hb, .inl h1⟩
        · exact .inr ⟨e, List.mem_cons_self .., hb, .inr h1⟩
      · exact .inl h1
    · exact .inr ⟨e', List.mem_cons_of_mem _ h1, h2⟩
theorem before_fold (l : List Oper) : ∀ (acc : Array Nat) (j k : Nat), acc.size ≤ j →
    ((l.foldl (fun acc (o : Oper) => acc.push (o.after.foldl (fun s e => if Region.binds .any e then s ||| 2 ^ e.on ||| acc.getD e.on 0 else s) 0)) acc).getD j 0).testBit k = true →
    ∃ o, l[j - acc.size]? = some o ∧ ∃ e ∈ o.after, Region.binds .any e = true ∧ (e.on = k ∨ ((l.foldl (fun acc (o : Oper) => acc.push (o.after.foldl (fun s e => if Region.binds .any e then s ||| 2 ^ e.on ||| acc.getD e.on 0 else s) 0)) acc).getD e.on 0).testBit k = true) := by
  induction l with
  | nil =>
    intro acc j k hj h
    simp only [List.foldl_nil] at h
    rw [Array.getD_eq_getD_getElem?, Array.getElem?_eq_none hj] at h
    simp at h
  | cons o l ih =>
    intro acc j k hj h
    rw [List.foldl_cons] at h
    by_cases hje : j = acc.size
    · subst hje
      rw [before_push l _ _ (by simp), Array.getD_eq_getD_getElem?, Array.getElem?_push_size, Option.getD_some] at h
      rw [← Array.foldl_toList] at h
      refine ⟨o, by simp, ?_⟩
      rcases or_fold_bit acc _ 0 k h with h1 | ⟨e, h1, h2, h3⟩
      · simp at h1
      · refine ⟨e, by simpa using h1, h2, h3.imp id fun h4 => ?_⟩
        have hlt : e.on < acc.size := by
          rcases Nat.lt_or_ge e.on acc.size with h' | h'
          · exact h'
          · rw [Array.getD_eq_getD_getElem?, Array.getElem?_eq_none h'] at h4
            simp at h4
        rw [before_push (o :: l) acc _ hlt]
        exact h4
    · obtain ⟨o', h1, h2⟩ := ih _ j k (by simp; omega) h
      refine ⟨o', ?_, h2⟩
      rw [Array.size_push] at h1
      rw [show j - acc.size = (j - (acc.size + 1)) + 1 by omega, List.getElem?_cons_succ]
      exact h1
theorem before_bit {ops : Array Oper} {j k : Nat} (h : ((Region.before ops).getD j 0).testBit k = true) :
    ∃ o, ops[j]? = some o ∧ ∃ e ∈ o.after, Region.binds .any e = true ∧ (e.on = k ∨ ((Region.before ops).getD e.on 0).testBit k = true) := by
  have e : Region.before ops = ops.toList.foldl (fun acc (o : Oper) => acc.push (o.after.foldl (fun s e => if Region.binds .any e then s ||| 2 ^ e.on ||| acc.getD e.on 0 else s) 0)) #[] := by
    unfold Region.before
    rw [← Array.foldl_toList]
  rw [e] at h
  obtain ⟨o, h1, h2⟩ := before_fold ops.toList #[] j k (by simp) h
  rw [← e] at h2
  exact ⟨o, by simpa using h1, h2⟩

theorem getD_tf {l : Array Bool} {i : Nat} (h : l.getD i false = true) : l.getD i true = true := by
  rw [Array.getD_eq_getD_getElem?] at h ⊢
  cases hx : l[i]? with
  | none => rfl
  | some b => rw [hx] at h; exact h
theorem any_sound (hE : EnvOk E) (hc : CallSound E.P call) {ro : Option Nat} {base n0 : Nat} {K0 : KS} {s0 : ST} {w0 : World} {s' : ST}
    (hord : ∀ i o, ops[i]? = some o → ∀ e ∈ o.after, Region.binds .any e = true → e.on < i) :
    ∀ (fuel : Nat) (listed : Array Bool) (R : List Ent) (s : ST) (K : KS) (a : Act) (w : World), RunP E call fid ops base s R s' →
      R.Pairwise (fun x y => ((Region.before ops).getD y.1 0).testBit x.1 = true ∨ Apart ops base x y) → (R.map (·.1)).Pairwise (· < ·) →
      (∀ i, i < ops.size → (listed.getD i true = false ↔ i ∈ R.map (·.1))) → (∀ e ∈ R, e.1 < ops.size) → listed.size = ops.size →
      (∀ i, listed.getD i false = true → ∀ k, ((Region.before ops).getD i 0).testBit k = true → listed.getD k false = true) → R.length ≤ fuel →
      Goes K0 s0.h.bs w0 K s.h.bs w → SR n0 K s a w →
      wpAnyIn (fence ro) 0 E.P .any ops (PostR n0 K0 s0 w0 .normal s') fuel listed a w := by
  intro fuel
  induction fuel with
  | zero =>
    intro listed R s K a w hrun hpw hsort hl hlt hsz hcl hlen hg hS
    have hR : R = [] := List.eq_nil_of_length_eq_zero (by omega)
    subst hR
    have : s = s' := hrun
    subst this
    refine ⟨?_, K, hg, hS, trivial⟩
    rw [List.eq_nil_iff_forall_not_mem]
    intro i hi
    obtain ⟨h1, o, ho, _⟩ := mem_ready.1 hi
    have := (hl i (Array.getElem?_eq_some_iff.1 ho).1).1 h1
    simp at this
  | succ fuel ih =>
    intro listed R s K a w hrun hpw hsort hl hlt hsz hcl hlen hg hS
    refine ⟨fun hready => ?_, fun i hi => ?_⟩
    · cases R with
      | nil =>
        have : s = s' := hrun
        subst this
        exact ⟨K, hg, hS, trivial⟩
      | cons e0 R =>
        exfalso
        have hlt0 := hlt e0 (List.mem_cons_self ..)
        have : e0.1 ∈ Region.ready .any ops listed := by
          rw [mem_ready]
          refine ⟨(hl _ hlt0).2 (by simp), ops[e0.1], Array.getElem?_eq_getElem hlt0, fun e he hb => ?_⟩
          have h1 := hord _ _ (Array.getElem?_eq_getElem hlt0) e he hb
          have h2 : listed.getD e.on true ≠ false := fun hf => by
            have := (hl _ (by omega)).1 hf
            simp only [List.map_cons] at this hsort
            rcases List.mem_cons.1 this with h3 | h3
            · omega
            · have := (List.pairwise_cons.1 hsort).1 _ h3
              omega
          have h3 : e.on < listed.size := by omega
          rw [Array.getD_eq_getD_getElem?, Array.getElem?_eq_getElem h3] at h2 ⊢
          simpa using h2
        rw [hready] at this
        cases this
    · obtain ⟨h1, o, ho, hall⟩ := mem_ready.1 hi
      have hil := (Array.getElem?_eq_some_iff.1 ho).1
      obtain ⟨b, hbm, hbi⟩ := List.mem_map.1 ((hl i hil).1 h1)
      obtain ⟨A, B, rfl⟩ := List.append_of_mem hbm
      have hap : ∀ x ∈ A, Apart ops base x b := by
        intro x hx
        have := (List.pairwise_append.1 hpw).2.2 x hx b (List.mem_cons_self ..)
        refine this.resolve_left fun hbit => ?_
        rw [hbi] at hbit
        obtain ⟨o', ho', e, he, hb, hk⟩ := before_bit hbit
        rw [ho] at ho'
        cases ho'
        have hle := hall e he hb
        have hx1 : listed.getD x.1 false = true := by
          rcases hk with hk | hk
          · rw [← hk]; exact hle
          · exact hcl _ hle _ hk
        have hxl := hlt x (List.mem_append_left _ hx)
        have := (hl _ hxl).2 (List.mem_map.2 ⟨x, List.mem_append_left _ hx, rfl⟩)
        rw [getD_tf hx1] at this
        cases this
      obtain ⟨hfit, hrun'⟩ := run_front A s hap hrun
      have hop : opAt ops b = o := by
        unfold opAt
        rw [hbi, Array.getD_eq_getD_getElem?, ho]
        rfl
      have hrec := hfit.rec_
      rw [hop, hbi] at hrec
      refine rec_sound hE hc ho hS hrec fun K' a' w' hg' hS' => ?_
      have hstep : b.step ops base s = b.2.1.app (base + i) o.dst s := by
        unfold Ent.step
        rw [hop, hbi]
      rw [hstep] at hrun'
      have hsub : (A ++ B).Sublist (A ++ b :: B) := List.Sublist.append (List.Sublist.refl A) (List.sublist_cons_self b B)
      have hsort' : ((A ++ B).map (·.1)).Pairwise (· < ·) := hsort.sublist (hsub.map _)
      have hnot : i ∉ (A ++ B).map (·.1) := by
        intro hm
        rw [List.map_append, List.map_cons] at hsort
        rw [List.map_append] at hm
        have hpa := List.pairwise_append.1 hsort
        rcases List.mem_append.1 hm with h2 | h2
        · have := hpa.2.2 i h2 b.1 (List.mem_cons_self ..)
          omega
        · have := (List.pairwise_cons.1 hpa.2.1).1 i h2
          omega
      refine ih _ (A ++ B) _ K' a' w' hrun' (hpw.sublist hsub) hsort' ?_ (fun e he => hlt e (hsub.subset he)) (by simp [hsz]) ?_ ?_ (hg.trans hg') hS'
      · intro j hj
        by_cases hji : j = i
        · subst hji
          rw [Array.getD_eq_getD_getElem?, Array.getElem?_setIfInBounds_self_of_lt (by omega)]
          constructor
          · intro h; simp at h
          · intro h; exact absurd h hnot
        · rw [getD_set_ne true (fun e => hji e.symm), hl j hj]
          simp only [List.map_append, List.map_cons, List.mem_append, List.mem_cons, hbi]
          constructor
          · rintro (h | h | h)
            · exact .inl h
            · exact absurd h hji
            · exact .inr h
          · rintro (h | h)
            · exact .inl h
            · exact .inr (.inr h)
      · intro j hj k hk
        by_cases hji : j = i
        · subst hji
          obtain ⟨o', ho', e, he, hb, hk'⟩ := before_bit hk
          rw [ho] at ho'
          cases ho'
          have hle := hall e he hb
          refine getD_set_true ?_
          rcases hk' with hk' | hk'
          · rw [← hk']; exact hle
          · exact hcl _ hle _ hk'
        · rw [getD_set_ne false (fun e => hji e.symm)] at hj
          exact getD_set_true (hcl j hj k hk)
      · simp only [List.length_append, List.length_cons] at hlen ⊢
        omega
theorem drawRun_run {base : Nat} : ∀ (l : List (Nat × Oper)) (s : ST) (L : List Ent) (s' : ST), drawRun E call fid ops base l s = some (L, s') → (∀ p ∈ l, ops[p.1]? = some p.2) → RunP E call fid ops base s L s' ∧ L.map (·.1) = l.map (·.1)
  | [], s, L, s', h, _ => by
    simp only [drawRun] at h
    cases h
    exact ⟨rfl, rfl⟩
  | (i, o) :: l, s, L, s', h, ho => by
    simp only [drawRun] at h
    split at h
    · rename_i c hrec
      split at h
      · rename_i L' s'' hrun
        cases h
        obtain ⟨h1, h2⟩ := drawRun_run l _ L' s' hrun fun p hp => ho p (List.mem_cons_of_mem _ hp)
        have hoi := ho (i, o) (List.mem_cons_self ..)
        have hop : opAt ops (i, c, s.h) = o := by
          unfold opAt
          rw [Array.getD_eq_getD_getElem?, hoi]
          rfl
        refine ⟨⟨⟨by rw [hop]; exact hrec, fun _ _ => rfl⟩, ?_⟩, by simp [h2]⟩
        unfold Ent.step
        rw [hop]
        exact h1
      · cases h
    · cases h
theorem drawOk_pairs {base : Nat} : ∀ (L : List Ent), drawOk ops base (Region.before ops) L = true → L.Pairwise (fun x y => ((Region.before ops).getD y.1 0).testBit x.1 = true ∨ Apart ops base x y)
  | [], _ => .nil
  | a :: r, h => by
    simp only [drawOk, Bool.and_eq_true] at h
    refine List.pairwise_cons.2 ⟨fun b hb => ?_, drawOk_pairs r h.2⟩
    have := List.all_eq_true.1 h.1 b hb
    simp only [Bool.or_eq_true, Bool.and_eq_true] at this
    rcases this with h1 | ⟨⟨h1, h2⟩, h3⟩
    · exact .inl h1
    · simp only [apart2, Bool.and_eq_true] at h3
      exact .inr ⟨h1, h2, fun r hr => List.all_eq_true.1 h3.1.1 r hr, fun r hr => List.all_eq_true.1 h3.1.2 r hr, h3.2⟩
theorem goes_voids {K : KS} {bs : List AB} {w : World} (hr : HR K bs w.heap) (n d : Nat) : Goes K bs w K (bs ++ List.replicate n .void) { w with drawn := d } := by
  have hget : ∀ (b : Nat) (x : AB), (bs ++ List.replicate n AB.void)[b]? = some x → x.live = true → bs[b]? = some x := by
    intro b x hx hl
    rw [List.getElem?_append] at hx
    split at hx
    · exact hx
    · have := List.mem_of_getElem? hx
      rw [List.mem_replicate] at this
      rw [this.2] at hl
      cases hl
  have hlt : ∀ b, b < bs.length → (bs ++ List.replicate n AB.void)[b]? = bs[b]? := fun b hb => List.getElem?_append_left hb
  have htr : Tr K bs w.heap K (bs ++ List.replicate n .void) w.heap :=
    { size := Nat.le_refl _
      keep := fun _ _ _ => rfl
      imono := fun _ h => h
      inew := fun _ h => .inl h
      img := fun c hc => by
        obtain ⟨b, x, hx, hw, he⟩ := hc
        exact .inl ⟨b, x, hget b x hx (wrt_live hw), hw, he⟩
      le := fun b x' _ hx hl => ⟨x', hget b x' hx hl, .inr ⟨hl, kin_refl hl, Nat.le_refl _, fun _ => ⟨rfl, rfl⟩⟩⟩
      void := fun b x' hb hx hv => ⟨x', by rw [← hlt b hb]; exact hx, hv⟩
      len := by simp }
  refine ⟨htr, ⟨?_, ?_, hr.ilt, ?_, ?_⟩, rfl, rfl, rfl⟩
  · intro b b' x x' hx hx' hl hl'
    exact hr.inj b b' x x' (hget b x hx hl) (hget b' x' hx' hl') hl hl'
  · intro b x hx hl
    obtain ⟨o, ho, hR⟩ := hr.obj b x (hget b x hx hl) hl
    exact ⟨o, ho, hR.mono (htr.lat hr)⟩
  · exact fun b x hx hw => hr.wr b x (hget b x hx (wrt_live hw)) hw
  · exact fun b c i hx hw => hr.nwr b c i (hget b _ hx rfl) hw
theorem esc_voids {h : H} (he : EscR h) (n : Nat) : EscR { h with bs := h.bs ++ List.replicate n .void } := by
  intro b x hx
  rw [List.getElem?_append] at hx
  split at hx
  · exact he b x hx
  · have := List.mem_of_getElem? hx
    rw [List.mem_replicate] at this
    rw [this.2]
    exact .inl (Nat.zero_le _)
/-- A region that draws its order. -/
theorem drawn_sound (hE : EnvOk E) (hc : CallSound E.P call) {ro : Option Nat} {id : Nat} {x : AX} {s s' : ST} (hev : evDrawn E call fid ops s = some (x, s')) {n0 : Nat} {K : KS} {a : Act} {w : World} (hS : SR n0 K s a w) :
    (Code.region id ops true).wpIn (fence ro) 0 E.P (PostR n0 K s w x s') a w := by
  unfold evDrawn at hev
  dsimp only at hev
  split at hev
  · rename_i L s'' hrun
    split at hev
    · rename_i hok
      cases hev
      simp only [Bool.and_eq_true] at hok
      have hmem : ∀ p ∈ ops.toList.zipIdx.map (fun p => (p.2, p.1)), ops[p.1]? = some p.2 := by
        intro p hp
        obtain ⟨q, hq, rfl⟩ := List.mem_map.1 hp
        have := List.mem_zipIdx_iff_getElem?.1 hq
        simpa using this
      obtain ⟨h1, h2⟩ := drawRun_run _ _ _ _ hrun hmem
      have hidx : (ops.toList.zipIdx.map (fun p => (p.2, p.1))).map (·.1) = List.range ops.size := by
        rw [List.map_map]
        have : ((fun x : Nat × Oper => x.1) ∘ fun p : Oper × Nat => (p.2, p.1)) = Prod.snd := rfl
        rw [this, List.zipIdx_map_snd]
        simp [List.range_eq_range']
      rw [hidx] at h2
      have hgv := goes_voids hS.hr ops.size (w.drawn + 1)
      have hL := hgv.lat hS.hr
      refine wpIn_region_any hE.mixed ?_
      refine any_sound hE hc (base := s.h.bs.length) ?_ ops.size (Array.replicate ops.size false) L _ K a _ h1 (drawOk_pairs L hok.2) (by rw [h2]; exact List.pairwise_lt_range) ?_ ?_ (by simp) ?_ ?_ hgv ⟨hgv.hr, esc_voids hS.esc _, hS.reg.mono hL, hS.marks.goes hS.hr hgv⟩
      · intro i o ho e he hb
        have := List.all_eq_true.1 hok.1 (o, i) (List.mem_zipIdx_iff_getElem?.2 (by simpa using ho))
        have := List.all_eq_true.1 this e (by simpa using he)
        simp only [hb, Bool.not_true, Bool.or_false, decide_eq_true_eq] at this
        exact this
      · intro i hi
        rw [h2, List.mem_range, Array.getD_eq_getD_getElem?]
        simp [hi]
      · intro e he
        have : e.1 ∈ L.map (·.1) := List.mem_map.2 ⟨e, he, rfl⟩
        rw [h2, List.mem_range] at this
        exact this
      · intro i hi
        rw [Array.getD_eq_getD_getElem?, Array.getElem?_replicate] at hi
        split at hi <;> simp at hi
      · have := congrArg List.length h2
        simp at this
        omega
    · cases hev
  · cases hev
end
end Go.Proofs.Ytnkeijebkpjdgaa.Ab
