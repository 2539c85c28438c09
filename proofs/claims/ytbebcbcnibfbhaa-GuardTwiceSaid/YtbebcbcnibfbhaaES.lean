import Derived.Test.YtbebcbcnibfbhaaER
import Derived.OrdersIn
/- The engine, nineteenth text: regions that draw their order. -/
namespace Go.Proofs.Ytbebcbcnibfbhaa.Ab
open Go

section
variable {E : Env} {call : CallF} {fid : FuncId} {ops : Array Oper}

theorem opnd_congr {r r' : RG} {x : Operand} (h : ∀ t, x = .tmp t → r'.get t = r.get t) : opnd r' x = opnd r x := by
  cases x with
  | tmp t => exact h t rfl
  | _ => rfl
theorem wantedA_congr {r r' : RG} {o : Oper} (h : ∀ t ∈ usesT ops o, r'.get t = r.get t) : wantedA ops r' o = wantedA ops r o := by
  unfold wantedA
  cases hg : o.guard with
  | none => rfl
  | some p =>
    obtain ⟨j, want⟩ := p
    simp only
    cases hd : (ops[j]?).bind (·.dst) with
    | none => rfl
    | some d =>
      simp only
      rw [h d (by unfold usesT; rw [hg]; simp only [List.mem_append]; right; rw [hd]; simp)]
theorem uses_opnd {o : Oper} {t : Tmp} (h : Operand.tmp t ∈ o.op.operands) : t ∈ usesT ops o := by
  unfold usesT
  rw [List.mem_append]
  left
  rw [List.mem_filterMap]
  exact ⟨.tmp t, by simpa using h, rfl⟩
theorem recCall_congr {f : AV} {as_ : List AV} {h h' : H} {c : Rec} (hc : recCall E call fid f as_ h = some c) (hh : h' = h ∨ RL.all ∉ c.reads) : recCall E call fid f as_ h' = some c := by
  rcases hh with rfl | hh
  · exact hc
  · unfold recCall at hc ⊢
    split at hc
    · split at hc
      · rename_i hcl
        rw [if_pos hcl]
        exact hc
      · split at hc
        · cases hc; exact absurd (by simp) hh
        · cases hc
    · split at hc
      · cases hc; exact absurd (by simp) hh
      · cases hc
theorem recCall_w {f : AV} {as_ : List AV} {h : H} {c : Rec} (hc : recCall E call fid f as_ h = some c) {w : WL} (hw : c.w = .w w) : w = .none := by
  unfold recCall at hc
  split at hc
  · split at hc
    · split at hc
      · split at hc
        · cases hc; cases hw; rfl
        · cases hc
      · cases hc
    · split at hc
      · cases hc; cases hw
      · cases hc
  · split at hc
    · cases hc; cases hw
    · cases hc
/-- A new block goes where none was. -/
theorem recOf_new {nid : Nat} {o : Oper} {s : ST} {c : Rec} (hc : recOf E call fid ops nid o s = some c) {x : AB} (hw : c.w = .w (.new x)) : nid < s.h.bs.length := by
  unfold recOf at hc
  split at hc
  · cases hc; cases hw
  · cases hc
  · split at hc
    · exact absurd (recCall_w hc hw) (by simp)
    · cases hc
    · split at hc
      · rename_i hv
        exact (List.getElem?_eq_some_iff.1 hv).1
      · cases hc
theorem recOf_congr {nid : Nat} {o : Oper} {s s' : ST} {c : Rec} (hc : recOf E call fid ops nid o s = some c) (ht : ∀ t ∈ usesT ops o, s'.tmps.get t = s.tmps.get t)
    (hh : s'.h = s.h ∨ ∀ x ∈ c.reads, agree s.h.bs s'.h.bs x) : recOf E call fid ops nid o s' = some c := by
  have hρ : ∀ x ∈ o.op.operands, opnd s'.tmps x = opnd s.tmps x := fun x hx => opnd_congr fun t e => ht t (uses_opnd (e ▸ hx))
  have hw := wantedA_congr (ops := ops) (r := s.tmps) (r' := s'.tmps) (o := o) ht
  unfold recOf at hc ⊢
  rw [hw]
  split at hc
  · exact hc
  · cases hc
  · cases hop : o.op with
    | call cl =>
      obtain ⟨callee, args, ts⟩ := cl
      cases callee with
      | value f =>
        rw [hop] at hc hρ
        simp only at hc ⊢
        simp only [Op.operands, Call.operands] at hρ
        rw [hρ f (by simp)]
        have e : args.toList.map (opnd s'.tmps) = args.toList.map (opnd s.tmps) := List.map_congr_left fun x hx => hρ x (by simp at hx; simp [hx])
        rw [e]
        refine recCall_congr hc ?_
        rcases hh with h1 | h1
        · exact .inl h1
        · exact .inr fun hm => h1 _ hm
      | builtin b =>
        rw [hop] at hc hρ
        simp only at hc ⊢
        rw [evOp_congr hρ]
        split at hc
        · rename_i hv
          split at hc
          · rename_i v w hr
            cases hc
            rcases hh with h1 | h1
            · rw [h1, hv, hr]
            · have e1 := h1 _ (List.mem_cons_self ..)
              have e2 : s'.h.bs[nid]? = some .void := (show s'.h.bs[nid]? = s.h.bs[nid]? from e1).trans hv
              obtain ⟨g1, g2⟩ := run_agree _ _ hr fun x hx => h1 x (List.mem_cons_of_mem _ hx)
              rw [e2, g1, g2]
          · cases hc
        · cases hc
      | invoke r m =>
        rw [hop] at hc
        simp only at hc
        split at hc
        · split at hc
          · rename_i v w hr
            exact (fail_run hr).elim
          · cases hc
        · cases hc
    | panic x =>
      rw [hop] at hc
      cases hc
    | _ =>
      rw [hop] at hc hρ
      simp only at hc ⊢
      rw [evOp_congr hρ]
      split at hc
      · rename_i hv
        split at hc
        · rename_i v w hr
          cases hc
          rcases hh with h1 | h1
          · rw [h1, hv, hr]
          · have e1 := h1 _ (List.mem_cons_self ..)
            have e2 : s'.h.bs[nid]? = some .void := (show s'.h.bs[nid]? = s.h.bs[nid]? from e1).trans hv
            obtain ⟨g1, g2⟩ := run_agree _ _ hr fun x hx => h1 x (List.mem_cons_of_mem _ hx)
            rw [e2, g1, g2]
        · cases hc
      · cases hc

/-! Runs, record by record. -/
abbrev Ent := Nat × Rec × H
def opAt (ops : Array Oper) (e : Ent) : Oper := ops.getD e.1 default
def Ent.step (ops : Array Oper) (base : Nat) (e : Ent) (s : ST) : ST := e.2.1.app (base + e.1) (opAt ops e).dst s
structure Fits (E : Env) (call : CallF) (fid : FuncId) (ops : Array Oper) (base : Nat) (s : ST) (e : Ent) : Prop where
  rec_ : recOf E call fid ops (base + e.1) (opAt ops e) s = some e.2.1
  heap : ∀ h', e.2.1.w = .heap h' → s.h = e.2.2
def RunP (E : Env) (call : CallF) (fid : FuncId) (ops : Array Oper) (base : Nat) : ST → List Ent → ST → Prop
  | s, [], s' => s = s'
  | s, e :: r, s' => Fits E call fid ops base s e ∧ RunP E call fid ops base (e.step ops base s) r s'
structure Apart (ops : Array Oper) (base : Nat) (a b : Ent) : Prop where
  t1 : apartT ops (opAt ops a) (opAt ops b) = true
  t2 : apartT ops (opAt ops b) (opAt ops a) = true
  r1 : ∀ r ∈ b.2.1.reads, apartW (base + a.1) a.2.2 a.2.1.w r = true
  r2 : ∀ r ∈ a.2.1.reads, apartW (base + b.1) b.2.2 b.2.1.w r = true
  ww : apartWW (base + a.1) (base + b.1) a.2.1.w b.2.1.w = true
theorem apartT_get {o p : Oper} (h : apartT ops o p = true) {r : RG} {v : AV} {t : Tmp} (ht : t ∈ usesT ops p) : (putT r o.dst v).get t = r.get t := by
  unfold apartT at h
  cases hd : o.dst with
  | none => rfl
  | some d =>
    rw [hd] at h
    simp only [Bool.and_eq_true, Bool.not_eq_true', bne_iff_ne] at h
    refine RG.get_put_other r v fun e => ?_
    subst e
    have := h.1
    simp at this
    exact this ht
theorem apartT_dst {o p : Oper} (h : apartT ops o p = true) : ∀ i, o.dst = some i → p.dst ≠ some i := by
  unfold apartT at h
  intro i hi
  rw [hi] at h
  simp only [Bool.and_eq_true, bne_iff_ne] at h
  exact h.2
theorem ww_heap {na nb : Nat} {a : WR} {h : H} (hw : apartWW na nb a (.heap h) = true) : a = .w .none := by
  cases a with
  | w x => cases x with
    | none => rfl
    | _ => simp [apartWW] at hw
  | heap x => simp [apartWW] at hw
theorem ww_heap' {na nb : Nat} {a : WR} {h : H} (hw : apartWW na nb (.heap h) a = true) : a = .w .none := by
  cases a with
  | w x => cases x with
    | none => rfl
    | _ => simp [apartWW] at hw
  | heap x => simp [apartWW] at hw
/-- One of two that are apart, ahead of the other. -/
theorem fits_back {base : Nat} {s : ST} {a b : Ent} (hap : Apart ops base a b) (ha : Fits E call fid ops base s a) (hb : Fits E call fid ops base (a.step ops base s) b) : Fits E call fid ops base s b := by
  refine ⟨?_, fun h' he => ?_⟩
  · refine recOf_congr hb.rec_ (fun t ht => (apartT_get hap.t1 ht).symm) ?_
    by_cases hs : a.2.1.w.app (base + a.1) s.h = s.h
    · exact .inl hs.symm
    · refine .inr fun x hx => ?_
      rcases apart_agree (σ := s.h) (hap.r1 x hx) (fun y hy => recOf_new ha.rec_ hy) ha.heap with h1 | h1
      · exact absurd h1 hs
      · exact h1.2
  · have := hb.heap h' he
    have hw := hap.ww
    rw [he] at hw
    have hn := ww_heap hw
    rw [← this]
    show s.h = a.2.1.w.app (base + a.1) s.h
    rw [hn]
    rfl
theorem fits_on {base : Nat} {s : ST} {a b : Ent} (hap : Apart ops base a b) (ha : Fits E call fid ops base s a) (hb : Fits E call fid ops base s b) : Fits E call fid ops base (b.step ops base s) a := by
  refine ⟨?_, fun h' he => ?_⟩
  · refine recOf_congr ha.rec_ (fun t ht => apartT_get hap.t2 ht) ?_
    by_cases hs : b.2.1.w.app (base + b.1) s.h = s.h
    · exact .inl hs
    · refine .inr fun x hx => ?_
      rcases apart_agree (σ := s.h) (hap.r2 x hx) (fun y hy => recOf_new hb.rec_ hy) hb.heap with h1 | h1
      · exact absurd h1 hs
      · exact h1.1
  · have hw := hap.ww
    rw [he] at hw
    have hn := ww_heap' hw
    rw [← ha.heap h' he]
    show b.2.1.w.app (base + b.1) s.h = s.h
    rw [hn]
    rfl
theorem step_comm {base : Nat} {s : ST} {a b : Ent} (hap : Apart ops base a b) (ha : Fits E call fid ops base s a) (hb : Fits E call fid ops base s b) : b.step ops base (a.step ops base s) = a.step ops base (b.step ops base s) := by
  have ht : putT (putT s.tmps (opAt ops a).dst a.2.1.v) (opAt ops b).dst b.2.1.v = putT (putT s.tmps (opAt ops b).dst b.2.1.v) (opAt ops a).dst a.2.1.v := putT_comm _ _ _ (apartT_dst hap.t1)
  have hh : b.2.1.w.app (base + b.1) (a.2.1.w.app (base + a.1) s.h) = a.2.1.w.app (base + a.1) (b.2.1.w.app (base + b.1) s.h) := by
    have hw := hap.ww
    cases haw : a.2.1.w with
    | heap h =>
      rw [haw] at hw
      rw [ww_heap' hw]
      rfl
    | w x =>
      cases hbw : b.2.1.w with
      | heap h =>
        rw [hbw] at hw
        have := ww_heap hw
        rw [haw] at this
        cases this
        rfl
      | w y =>
        rw [haw, hbw] at hw
        exact app_comm (fun z hz => recOf_new ha.rec_ (haw.trans (by rw [hz]))) (fun z hz => recOf_new hb.rec_ (hbw.trans (by rw [hz]))) hw
  show (⟨_, _⟩ : ST) = ⟨_, _⟩
  rw [show (Ent.step ops base a s) = ⟨putT s.tmps (opAt ops a).dst a.2.1.v, a.2.1.w.app (base + a.1) s.h⟩ from rfl, show (Ent.step ops base b s) = ⟨putT s.tmps (opAt ops b).dst b.2.1.v, b.2.1.w.app (base + b.1) s.h⟩ from rfl]
  exact congr (congrArg ST.mk ht) hh
/-- One that is apart from all that stand ahead of it may come first. -/
theorem run_front {base : Nat} {b : Ent} {r : List Ent} {s' : ST} : ∀ (l : List Ent) (s : ST), (∀ a ∈ l, Apart ops base a b) → RunP E call fid ops base s (l ++ b :: r) s' → RunP E call fid ops base s (b :: (l ++ r)) s'
  | [], s, _, h => h
  | a :: l, s, hap, h => by
    obtain ⟨ha, h⟩ := h
    obtain ⟨hb, h⟩ := run_front l _ (fun x hx => hap x (List.mem_cons_of_mem _ hx)) h
    have hab := hap a (List.mem_cons_self ..)
    have hb' := fits_back hab ha hb
    refine ⟨hb', fits_on hab ha hb', ?_⟩
    rw [← step_comm hab ha hb']
    exact h
end
end Go.Proofs.Ytbebcbcnibfbhaa.Ab
