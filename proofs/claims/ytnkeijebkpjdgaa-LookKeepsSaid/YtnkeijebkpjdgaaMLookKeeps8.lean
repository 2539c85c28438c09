import Derived.Test.YtnkeijebkpjdgaaMLookKeeps7
import Derived.RangeFuncRecord
set_option linter.unusedVariables false
set_option linter.unusedSimpArgs false
/- The engine, seventeenth text: states, marks, calls; regions that keep the text's order. -/
namespace Go.Proofs.Ytnkeijebkpjdgaa.Ab
open Go

section
variable {K : KS} {bs : List AB} {hp : Array Obj}
theorem ObjR.top {k : Nat} {x : AB} {o : Obj} (h : ObjR K bs hp k x o) (hl : x.live = true) : x.top ≤ bs.length := by
  cases x with
  | cells c i =>
    obtain ⟨cc, e, lo, hi, us, h1, h2, h3, h4, h5, h6⟩ := h
    simp only [AB.top]
    have := h5.top_le
    cases i.cl <;> simp <;> omega
  | map es =>
    obtain ⟨ces, cl, h1, h2, h3, h4⟩ := h
    simp only [AB.top]
    have := h2.top_le
    have := h3.top_le
    omega
  | loop f t p a c s j =>
    obtain ⟨l, h1, h2, h3, h4, h5, h6, h7⟩ := h
    exact h7.top
  | dead => cases hl
  | void => cases hl
theorem HR.top (hr : HR K bs hp) {b : Nat} {x : AB} (hx : bs[b]? = some x) : x.top ≤ bs.length := by
  cases hl : x.live with
  | true =>
    obtain ⟨o, _, hR⟩ := hr.obj b x hx hl
    exact hR.top hl
  | false => cases x <;> simp_all [AB.live, AB.top]
/-- What an operation does keeps the book of who names whom. -/
theorem esc_app {h : H} (he : EscR h) {nid : Nat} {wl : WL} {K' : KS} {hp' : Array Obj} (hr : HR K' (h.app nid wl).bs hp') : EscR (h.app nid wl) := by
  cases wl with
  | none => exact he
  | new b =>
    simp only [H.app] at hr ⊢
    split
    · rename_i hnl
      rw [if_pos hnl] at hr
      intro c x hx
      rw [List.getElem?_append] at hx
      split at hx
      · exact he c x hx
      · rename_i hc
        have hx0 := hx
        have hlt := (List.getElem?_eq_some_iff.1 hx).1
        have hce : c = h.bs.length := by simp at hlt; omega
        subst hce
        have : (h.bs ++ [b])[h.bs.length]? = some x := by simpa using hx
        have := hr.top this
        simp at this
        exact .inl this
    · rename_i hnl
      intro c x hx
      simp only at hx
      rw [List.getElem?_set] at hx
      split at hx
      · rename_i hc
        subst hc
        split at hx
        · cases hx
          dsimp only
          split
          · rename_i ht; exact .inl ht
          · exact .inr ⟨(nid, b.top), by simp, rfl, Nat.le_refl _⟩
        · cases hx
      · rcases he c x hx with h1 | ⟨e, h1, h2⟩
        · exact .inl h1
        · refine .inr ⟨e, ?_, h2⟩
          dsimp only
          split
          · exact h1
          · exact List.mem_cons_of_mem _ h1
  | put b off vs =>
    simp only [H.app] at hr ⊢
    split
    · rename_i c i hb
      intro d x hx
      simp only at hx
      rw [List.getElem?_set] at hx
      split at hx
      · rename_i hd
        subst hd
        split at hx
        · cases hx
          dsimp only
          by_cases hcl : i.cl = true
          · exact .inl (by simp [AB.top, hcl])
          · have hcl' : i.cl = false := by simpa using hcl
            have ht : (AB.cells (splice c off vs) i).top ≤ max (topL c) (topL vs) := by
              simp only [AB.top, hcl', Bool.false_eq_true, if_false]
              refine topL_le fun a ha => ?_
              have : a ∈ c ∨ a ∈ vs := splice_mem ha
              rcases this with h1 | h1
              · have := top_le_topL h1; omega
              · have := top_le_topL h1; omega
            have hold := he b _ hb
            simp only [AB.top, hcl', Bool.false_eq_true, if_false] at hold
            split
            · rename_i hv
              rcases hold with h1 | ⟨e, h1, h2, h3⟩
              · exact .inl (by omega)
              · by_cases hlt : topL c ≤ b + 1
                · exact .inl (by omega)
                · exact .inr ⟨e, h1, h2, by omega⟩
            · rename_i hv
              by_cases hcv : topL c ≤ topL vs
              · exact .inr ⟨(b, topL vs), by simp, rfl, by simp only; omega⟩
              · rcases hold with h1 | ⟨e, h1, h2, h3⟩
                · exact .inl (by omega)
                · exact .inr ⟨e, List.mem_cons_of_mem _ h1, h2, by omega⟩
        · cases hx
      · rcases he d x hx with h1 | ⟨e, h1, h2⟩
        · exact .inl h1
        · refine .inr ⟨e, ?_, h2⟩
          dsimp only
          split
          · exact h1
          · exact List.mem_cons_of_mem _ h1
    · exact he
  | blk b x =>
    simp only [H.app] at hr ⊢
    intro d y hy
    simp only at hy
    have htop := hr.top hy
    rw [List.length_set] at htop
    rw [List.getElem?_set] at hy
    split at hy
    · rename_i hd
      subst hd
      split at hy
      · cases hy
        cases x with
        | dead => exact .inl (Nat.zero_le _)
        | void => exact .inl (Nat.zero_le _)
        | cells c i =>
          dsimp only
          cases hc : i.cl with
          | true => exact .inl (by simp [AB.top, hc])
          | false => exact .inr ⟨(b, h.bs.length), by simp, rfl, htop⟩
        | map es =>
          dsimp only
          split
          · rename_i ht
            exact .inl ht
          · exact .inr ⟨(b, h.bs.length), by simp, rfl, htop⟩
        | loop => exact .inr ⟨(b, h.bs.length), by simp, rfl, htop⟩
      · cases hy
    · rcases he d y hy with h1 | ⟨e, h1, h2⟩
      · exact .inl h1
      · refine .inr ⟨e, ?_, h2⟩
        cases x with
        | dead => exact h1
        | void => exact h1
        | cells c i =>
          dsimp only
          cases i.cl with
          | true => exact h1
          | false => exact List.mem_cons_of_mem _ h1
        | map es =>
          dsimp only
          split
          · exact h1
          · exact List.mem_cons_of_mem _ h1
        | loop => exact List.mem_cons_of_mem _ h1
theorem img_kind (hr : HR K bs hp) {c : Nat} (hc : Img K bs c) {d : Option (List Deferred)} : hp[c]? ≠ some (.deferred d) := by
  obtain ⟨b, x, hx, hw, rfl⟩ := hc
  obtain ⟨o, ho, hR⟩ := hr.obj b x hx (wrt_live hw)
  intro he
  rw [he] at ho
  cases ho
  cases x with
  | cells c i => obtain ⟨cc, e, lo, hi, us, h1, _⟩ := hR; cases h1
  | map es => obtain ⟨ces, cl, h1, _⟩ := hR; cases h1
  | loop f t p a c s j => obtain ⟨l, h1, _⟩ := hR; cases h1
  | dead => cases hw
  | void => cases hw
end

/-! States -/
def fence (ro : Option Nat) : Fence := { Fence.wide with round := ro }
/-- The marks that loops over functions have left: their blocks are empty, and nobody else's. -/
def Marks (n0 : Nat) (K : KS) (w : World) (ds : List Deferred) : Prop :=
  n0 ≤ w.heap.size ∧ ∃ Ds : List Nat, ds = Ds.map (fun D => { target := .collected D, args := #[] }) ∧ Ds.Nodup ∧ ∀ D ∈ Ds, n0 ≤ D ∧ w.heap[D]? = some (.deferred (some [])) ∧ ¬ K.I D
theorem Marks.goes {n0 : Nat} {K K' : KS} {bs bs' : List AB} {w w' : World} {ds : List Deferred} (h : Marks n0 K w ds) (hr : HR K bs w.heap) (hg : Goes K bs w K' bs' w') : Marks n0 K' w' ds := by
  obtain ⟨h0, Ds, h1, h2, h3⟩ := h
  refine ⟨Nat.le_trans h0 hg.tr.size, Ds, h1, h2, fun D hD => ?_⟩
  obtain ⟨g1, g2, g3⟩ := h3 D hD
  have hi : ¬ Img K bs D := fun hi => img_kind hr hi g2
  have hlt := (Array.getElem?_eq_some_iff.1 g2).1
  refine ⟨g1, (hg.tr.keep D hlt hi).trans g2, fun h => ?_⟩
  rcases hg.tr.inew D h with h | h | h
  · exact g3 h
  · omega
  · exact hi h
theorem Marks.nil {n0 : Nat} {w : World} (h : n0 ≤ w.heap.size) (K : KS) : Marks n0 K w [] := ⟨h, [], rfl, .nil, fun D h => by cases h⟩
structure SR (n0 : Nat) (K : KS) (s : ST) (a : Act) (w : World) : Prop where
  hr : HR K s.h.bs w.heap
  esc : EscR s.h
  reg : RegR K s.h.bs w.heap s.tmps a.tmps
  marks : Marks n0 K w a.defers
def PanicR (K : KS) (bs : List AB) (hp : Array Obj) (v : AV) (chain : List PanicEntry) : Prop := ∃ v', chain = [{ v := v', recovered := false }] ∧ RepV K bs hp v v'
def ExR (K : KS) (bs : List AB) (hp : Array Obj) : AX → Exit → Prop
  | .normal, .normal => True
  | .exit i, .exit j => i = j
  | .goto i, .goto j => i = j
  | .ret, .ret => True
  | .panic v, .panic chain => PanicR K bs hp v chain
  | _, _ => False
def PostR (n0 : Nat) (K : KS) (s : ST) (w : World) (x : AX) (s' : ST) : Exit → Act → World → Prop :=
  fun e a' w' => ∃ K', Goes K s.h.bs w K' s'.h.bs w' ∧ SR n0 K' s' a' w' ∧ ExR K' s'.h.bs w'.heap x e
def EndR (K : KS) (bs : List AB) (hp : Array Obj) : AR → Ending → Prop
  | .ret v, .returned v' => RepV K bs hp v v'
  | .panic v, .panicked chain => PanicR K bs hp v chain
  | _, _ => False
def DoneR (K : KS) (h : H) (w : World) (r : AR) (h' : H) : Ending → World → Prop :=
  fun e w' => ∃ K', Goes K h.bs w K' h'.bs w' ∧ EscR h' ∧ EndR K' h'.bs w'.heap r e
/-- A call of a function's value, in the machine: of a function, of a loop's round. -/
def MCall (P : Program) (fval : Value) (vals : Array Value) (w : World) (R : Ending → World → Prop) : Prop :=
  (∃ f first cap, fval = .func (.func f) first cap ∧ (callFunc f (first ++ vals ++ cap)).run P w = .ok (.enter f (first ++ vals ++ cap)) w ∧ Calls P f (first ++ vals ++ cap) w R) ∨
  (∃ l fn tmps assign body, fval = .func (.yield l) #[] #[] ∧ (Instr.yield l vals).run P w = .ok (.round l fn tmps assign body) w ∧ RoundIn Fence.wide 0 P l fn tmps assign body w R)
theorem MCall.mono {P : Program} {fval : Value} {vals : Array Value} {w : World} {R R' : Ending → World → Prop} (h : MCall P fval vals w R) (hr : ∀ e w', R e w' → R' e w') : MCall P fval vals w R' := by
  rcases h with ⟨f, a, b, h1, h2, h3⟩ | ⟨l, fn, t, a, b, h1, h2, h3⟩
  · exact .inl ⟨f, a, b, h1, h2, h3.mono hr⟩
  · exact .inr ⟨l, fn, t, a, b, h1, h2, h3.mono hr⟩
def CallSound (P : Program) (call : CallF) : Prop :=
  ∀ (from_ : FuncId) (fv : AV) (as_ : List AV) (h : H) (r : AR) (h' : H) (K : KS) (w : World) (fval : Value) (vals : List Value), call from_ fv as_ h = some (r, h') → HR K h.bs w.heap → EscR h → RepV K h.bs w.heap fv fval → RepVL K h.bs w.heap as_ vals →
    MCall P fval vals.toArray w (DoneR K h w r h')

section step
variable {P : Program}
/-- A call, as an operation. -/
theorem uponIn_call {ro : Option Nat} {o : Oper} {a : Act} {w : World} {next : Act → World → Prop} {Q : Exit → Act → World → Prop} {fval : Value} {vals : Array Value}
    (h : MCall P fval vals w fun e w' => match e with
      | .returned v => next (a.put o.dst v) w'
      | .panicked chain => Q (.panic chain) a w'
      | .outgrown => False) :
    o.uponIn (fence ro) 0 P a next Q ((do let d ← Deferred.ofValue fval vals; invoke d.target d.args : Sem Next).run P w) := by
  rcases h with ⟨f, first, cap, rfl, h2, h3⟩ | ⟨l, fn, tmps, assign, body, rfl, h2, h3⟩
  · have e : (do let d ← Deferred.ofValue (.func (.func f) first cap) vals; invoke d.target d.args : Sem Next).run P w = .ok (.enter f (first ++ vals ++ cap)) w := by
      simp only [Deferred.ofValue, Sem.run_bind, Sem.run_pure, Result.andThen_ok, invoke]
      exact h2
    rw [e, Oper.uponIn_enter]
    refine ⟨fun h => by simp [fence, Fence.wide] at h, ?_⟩
    have h4 : CallsIn Fence.wide (0 - 1) P f (first ++ vals ++ cap) w _ := callsIn_wide.2 h3
    refine CallsIn.mono (F := fence ro) h4 fun e w' he => ?_
    cases e with
    | returned v => exact he
    | panicked chain => exact he
    | outgrown => exact he.elim
  · have e : (do let d ← Deferred.ofValue (.func (.yield l) #[] #[]) vals; invoke d.target d.args : Sem Next).run P w = .ok (.round l fn tmps assign body) w := by
      simp only [Deferred.ofValue, Sem.run_bind, Sem.run_pure, Result.andThen_ok, invoke]
      rw [show (#[] ++ vals : Array Value) = vals by simp]
      exact h2
    rw [e, Oper.uponIn_round]
    refine ⟨fun h => by simp [fence, Fence.wide] at h, ?_⟩
    refine RoundIn.mono (F := fence ro) h3 fun e w' he => ?_
    cases e with
    | returned v => exact he
    | panicked chain => exact he
    | outgrown => exact he.elim
theorem good_upon {ro : Option Nat} {n : Nat} {o : Oper} {a : Act} {next : Act → World → Prop} {Q : Exit → Act → World → Prop} {r : Result Next} {v : Value} {w' : World} (h : outVal r = some (v, w')) (hn : next (a.put o.dst v) w') :
    o.uponIn (fence ro) n P a next Q r := by
  unfold outVal at h
  split at h
  · cases h; exact hn
  · cases h; exact hn
  · cases h

/-- What a run is over must be so. -/
structure EnvOk (E : Env) : Prop where
  ok : ∀ f, E.ok f = true → ∀ (args : Array Value) (w : World), (callFunc f args).run E.P w = .ok (.enter f args) w
  flat : ∀ t ks, E.flat t = some ks → FlatTy E.P t ks
  mixed : E.P.follows .mixedOrders = true
theorem put_sr {n0 : Nat} {K : KS} {s : ST} {a : Act} {w : World} (hS : SR n0 K s a w) {K' : KS} {h' : H} {w' : World} (hg : Goes K s.h.bs w K' h'.bs w') (he : EscR h') {v : AV} {u : Value} (hv : RepV K' h'.bs w'.heap v u) (dst : Option Tmp) :
    SR n0 K' { tmps := putT s.tmps dst v, h := h' } (a.put dst u) w' := by
  refine ⟨hg.hr, he, putT_rep (hS.reg.mono (hg.lat hS.hr)) hv dst, ?_⟩
  rw [put_defers]
  exact hS.marks.goes hS.hr hg
theorem oper_sound {E : Env} (hE : EnvOk E) {call : CallF} (hc : CallSound E.P call) {ro : Option Nat} {fid : FuncId} {o : Oper} {n0 : Nat} {K : KS} {s : ST} {a : Act} {w : World} (hS : SR n0 K s a w) {next : Act → World → Prop} {Q : Exit → Act → World → Prop}
    (h : (∃ s', evOper E call fid o s = .ok s' ∧ ∀ K' a' w', Goes K s.h.bs w K' s'.h.bs w' → SR n0 K' s' a' w' → next a' w') ∨
      (∃ v s', evOper E call fid o s = .panic v s' ∧ ∀ K' a' w' chain, Goes K s.h.bs w K' s'.h.bs w' → SR n0 K' s' a' w' → PanicR K' s'.h.bs w'.heap v chain → Q (.panic chain) a' w')) :
    o.wpIn (fence ro) 0 E.P a w next Q := by
  refine ⟨fun _ _ => trivial, ?_⟩
  have hρ := opnd_rep hS.reg
  by_cases hcall : ∃ f args ts, o.op = .call { callee := .value f, args, argTypes := ts }
  · obtain ⟨f, args, ts, hop⟩ := hcall
    have hev : evOper E call fid o s = match call fid (opnd s.tmps f) (args.toList.map (opnd s.tmps)) s.h with
      | some (.ret v, h') => .ok { tmps := putT s.tmps o.dst v, h := h' }
      | some (.panic v, h') => .panic v { s with h := h' }
      | none => .no := by
      unfold evOper
      simp only [hop]
      rfl
    rw [Oper.semAt_eq _ _ _ (by rw [hop]; intro c hc; cases hc)]
    have hex : execOp a.eval o = (do let d ← Deferred.ofValue (a.eval f) (args.map a.eval); invoke d.target d.args : Sem Next) := by
      unfold execOp
      rw [hop]
      rfl
    rw [hex]
    rw [hev] at h
    have hvals : RepVL K s.h.bs w.heap (args.toList.map (opnd s.tmps)) (args.map a.eval).toList := by
      rw [Array.toList_map]
      exact RepVL.map fun x _ => hρ x
    cases hcl : call fid (opnd s.tmps f) (args.toList.map (opnd s.tmps)) s.h with
    | none =>
      rw [hcl] at h
      rcases h with ⟨s', h, _⟩ | ⟨v, s', h, _⟩ <;> cases h
    | some r =>
      obtain ⟨r, h'⟩ := r
      have hM := hc _ _ _ _ _ _ _ _ _ _ hcl hS.hr hS.esc (hρ f) hvals
      rw [Array.toArray_toList] at hM
      refine uponIn_call (hM.mono fun e w' he => ?_)
      obtain ⟨K', hg, hesc, hend⟩ := he
      rw [hcl] at h
      cases r with
      | ret v =>
        cases e with
        | returned u =>
          rcases h with ⟨s', h, hn⟩ | ⟨v, s', h, _⟩
          · cases h
            exact hn K' _ _ hg (put_sr hS hg hesc hend _)
          · cases h
        | panicked chain => exact hend.elim
        | outgrown => exact hend.elim
      | panic v =>
        cases e with
        | returned u => exact hend.elim
        | panicked chain =>
          rcases h with ⟨s', h, hn⟩ | ⟨v, s', h, hn⟩
          · cases h
          · cases h
            exact hn K' a w' chain hg ⟨hg.hr, hesc, hS.reg.mono (hg.lat hS.hr), hS.marks.goes hS.hr hg⟩ hend
        | outgrown => exact hend.elim
  · by_cases hpan : ∃ x, o.op = .panic x
    · obtain ⟨x, hop⟩ := hpan
      have hev : evOper E call fid o s = match opnd s.tmps x with
        | .ifc t v => .panic (.ifc t v) s
        | _ => .no := by
        unfold evOper
        simp only [hop]
        rfl
      rw [Oper.semAt_eq _ _ _ (by rw [hop]; intro c hc; cases hc)]
      have hex : execOp a.eval o = (do pure (.value (← Instr.panic (a.eval x))) : Sem Next) := by
        unfold execOp
        rw [hop]
      rw [hex]
      rw [hev] at h
      have hx := hρ x
      cases ho : opnd s.tmps x with
      | ifc t v =>
        rw [ho] at h hx
        obtain ⟨u, hu, hR⟩ := hx.inv_ifc
        rcases h with ⟨s', h, _⟩ | ⟨v, s', h, hn⟩
        · cases h
        · cases h
          have hrun : (do pure (.value (← Instr.panic (a.eval x))) : Sem Next).run E.P w = .halt (.panic (.iface t u)) w := by
            rw [hu]
            rfl
          rw [hrun, Oper.uponIn_panic]
          exact hn K a w _ (Goes.refl hS.hr) hS ⟨_, rfl, .ifc hR⟩
      | _ =>
        rw [ho] at h
        rcases h with ⟨s', h, _⟩ | ⟨v, s', h, _⟩ <;> cases h
    · have hev : evOper E call fid o s = match (evOp E.P E.flat s.h.bs.length o.op (opnd s.tmps)).run s.h.bs with
        | some (v, w) => .ok { tmps := putT s.tmps o.dst v, h := s.h.app s.h.bs.length w }
        | none => .no := by
        unfold evOper
        split
        · rename_i f args ts hop
          exact absurd ⟨f, args, ts, hop⟩ hcall
        · rename_i x hop
          exact absurd ⟨x, hop⟩ hpan
        · rfl
      rw [hev] at h
      cases hm : (evOp E.P E.flat s.h.bs.length o.op (opnd s.tmps)).run s.h.bs with
      | none =>
        rw [hm] at h
        rcases h with ⟨s', h, _⟩ | ⟨v, s', h, _⟩ <;> cases h
      | some r =>
        obtain ⟨v, wl⟩ := r
        rw [hm] at h
        rcases h with ⟨s', h, hn⟩ | ⟨v, s', h, _⟩
        · cases h
          have hnd : ∀ c, o.op ≠ .defer c := by
            intro c hc
            rw [hc] at hm
            exact fail_run hm
          rw [Oper.semAt_eq _ _ _ hnd]
          obtain ⟨u, w', K', h1, h2, h3⟩ := evOp_sound hS.hr (.inl rfl) hE.flat hρ hm
          rw [← app_bs] at h2 h3
          exact good_upon h1 (hn K' _ _ h2 (put_sr hS h2 (esc_app hS.esc h2.hr) h3 _))
        · cases h
theorem SR.skip {n0 : Nat} {K : KS} {s : ST} {a : Act} {w : World} (hS : SR n0 K s a w) (dst : Option Tmp) : SR n0 K { s with tmps := putT s.tmps dst (.tup []) } (a.put dst undef) w :=
  put_sr (h' := s.h) hS (Goes.refl hS.hr) hS.esc (.tup .nil) dst
/-- A region that keeps the text's order. -/
theorem ops_sound {E : Env} (hE : EnvOk E) {call : CallF} (hc : CallSound E.P call) {ro : Option Nat} {fid : FuncId} {ops : Array Oper} {n0 : Nat} {K0 : KS} {s0 : ST} {w0 : World} {x : AX} {s1 : ST} (hr0 : HR K0 s0.h.bs w0.heap) :
    ∀ (l : List Oper) (k : Nat) (s : ST) (K : KS) (a : Act) (w : World), (∀ i, l[i]? = ops[k + i]?) → evOps E call fid ops l s = some (x, s1) → Goes K0 s0.h.bs w0 K s.h.bs w → SR n0 K s a w →
      wpOpsIn (fence ro) 0 E.P ops (PostR n0 K0 s0 w0 x s1) (List.range' k l.length) a w
  | [], k, s, K, a, w, hl, hev, hg, hS => by
    simp only [evOps] at hev
    cases hev
    exact ⟨K, hg, hS, trivial⟩
  | o :: l, k, s, K, a, w, hl, hev, hg, hS => by
    have ho : ops[k]? = some o := by have := hl 0; simpa using this.symm
    have hl' : ∀ i, l[i]? = ops[k + 1 + i]? := fun i => by have := hl (i + 1); rw [List.getElem?_cons_succ] at this; rw [this]; congr 1; omega
    rw [List.length_cons, List.range'_succ]
    simp only [wpOpsIn, ho]
    simp only [evOps] at hev
    split at hev
    · rename_i hw
      rw [if_pos (wanted_sound hS.reg hw)]
      split at hev
      · rename_i s' hs
        exact oper_sound hE hc hS (.inl ⟨s', hs, fun K' a' w' hg' hS' => ops_sound hE hc hr0 l (k + 1) s' K' a' w' hl' hev (hg.trans hg') hS'⟩)
      · rename_i v s' hs
        cases hev
        exact oper_sound hE hc hS (.inr ⟨_, _, hs, fun K' a' w' chain hg' hS' hp => ⟨K', hg.trans hg', hS', hp⟩⟩)
      · cases hev
    · rename_i hw
      have hwf := wanted_sound hS.reg hw
      rw [hwf]
      exact ⟨fun _ _ => trivial, ops_sound hE hc hr0 l (k + 1) _ K _ w hl' hev hg (hS.skip o.dst)⟩
    · cases hev
end step
end Go.Proofs.Ytnkeijebkpjdgaa.Ab
/- The engine, eighteenth text: what an operation reads; two that do not meet. -/
namespace Go.Proofs.Ytnkeijebkpjdgaa.Ab
open Go

/-! Values that are told alike are alike. -/
mutual
theorem AV.same_eq : ∀ (a b : AV), a.same b = true → a = b := by
  intro a b h
  cases a with
  | bool x => cases b with
    | bool y => simp [AV.same] at h; rw [h]
    | _ => simp [AV.same] at h
  | int k x => cases b with
    | int k' y => simp [AV.same] at h; rw [h.1, h.2]
    | _ => simp [AV.same] at h
  | str x => cases b with
    | str y => simp [AV.same] at h; rw [h]
    | _ => simp [AV.same] at h
  | ptr0 => cases b with
    | ptr0 => rfl
    | _ => simp [AV.same] at h
  | sl0 => cases b with
    | sl0 => rfl
    | _ => simp [AV.same] at h
  | map0 => cases b with
    | map0 => rfl
    | _ => simp [AV.same] at h
  | fn0 => cases b with
    | fn0 => rfl
    | _ => simp [AV.same] at h
  | ifc0 => cases b with
    | ifc0 => rfl
    | _ => simp [AV.same] at h
  | hole => simp [AV.same] at h
  | ref x y z => cases b with
    | ref x' y' z' => simp [AV.same] at h; rw [h.1.1, h.1.2, h.2]
    | _ => simp [AV.same] at h
  | rsl x y z u v => cases b with
    | rsl x' y' z' u' v' => simp [AV.same] at h; rw [h.1.1.1.1, h.1.1.1.2, h.1.1.2, h.1.2, h.2]
    | _ => simp [AV.same] at h
  | mref x => cases b with
    | mref y => simp [AV.same] at h; rw [h]
    | _ => simp [AV.same] at h
  | yc x => cases b with
    | yc y => simp [AV.same] at h; rw [h]
    | _ => simp [AV.same] at h
  | vref c o => cases b with
    | vref c' o' => simp [AV.same] at h; rw [sameL_eq c c' h.1, h.2]
    | _ => simp [AV.same] at h
  | sl c n t => cases b with
    | sl c' n' t' => simp [AV.same] at h; rw [sameL_eq c c' h.1.1, h.1.2, h.2]
    | _ => simp [AV.same] at h
  | fn f x y => cases b with
    | fn f' x' y' => simp [AV.same] at h; rw [h.1.1, sameL_eq x x' h.1.2, sameL_eq y y' h.2]
    | _ => simp [AV.same] at h
  | ifc t x => cases b with
    | ifc t' x' => simp [AV.same] at h; rw [h.1, AV.same_eq x x' h.2]
    | _ => simp [AV.same] at h
  | agg x => cases b with
    | agg x' => simp [AV.same] at h; rw [sameL_eq x x' h]
    | _ => simp [AV.same] at h
  | tup x => cases b with
    | tup x' => simp [AV.same] at h; rw [sameL_eq x x' h]
    | _ => simp [AV.same] at h
theorem sameL_eq : ∀ (a b : List AV), sameL a b = true → a = b := by
  intro a b h
  cases a with
  | nil => cases b with
    | nil => rfl
    | cons _ _ => simp [sameL] at h
  | cons x a => cases b with
    | nil => simp [sameL] at h
    | cons y b => simp [sameL] at h; rw [AV.same_eq x y h.1, sameL_eq a b h.2]
end

/-! What is read. -/
def agree (h h' : List AB) : RL → Prop
  | .cells b off n => ∀ c i, h[b]? = some (.cells c i) → ∃ c' i', h'[b]? = some (.cells c' i') ∧ c'.length = c.length ∧ (c'.drop off).take n = (c.drop off).take n
  | .info b => ∀ c i, h[b]? = some (.cells c i) → ∃ c', h'[b]? = some (.cells c' i) ∧ c'.length = c.length
  | .blk b => h'[b]? = h[b]?
  | .all => False
theorem take1_get {c c' : List AV} {off : Nat} (h : (c'.drop off).take 1 = (c.drop off).take 1) : c'[off]? = c[off]? := by
  have h2 := congrArg (fun l => l[0]?) h
  simpa using h2
theorem run_agree {α : Type} {h h' : List AB} : ∀ (m : AM α) (r : α), m.run h = some r → (∀ x ∈ m.reads h, agree h h' x) → m.run h' = some r ∧ m.reads h' = m.reads h
  | .ret a, r, hm, _ => ⟨hm, rfl⟩
  | .fail, r, hm, _ => (fail_run hm).elim
  | .cells b off n k, r, hm, ha => by
    obtain ⟨c, i, hb, hl, hm⟩ := cells_run hm
    simp only [AM.reads, hb, List.mem_cons] at ha
    obtain ⟨c', i', hb', hl', hs⟩ := ha _ (.inl rfl) c i hb
    obtain ⟨h1, h2⟩ := run_agree (k ((c.drop off).take n)) r hm fun x hx => ha x (.inr hx)
    refine ⟨?_, ?_⟩
    · simp only [AM.run, hb', hl', if_pos hl, hs, h1]
    · simp only [AM.reads, hb', hb, hs, h2]
  | .cell b off k, r, hm, ha => by
    obtain ⟨c, i, v, hb, hv, hm⟩ := cell_run hm
    simp only [AM.reads, hb, hv, List.mem_cons] at ha
    obtain ⟨c', i', hb', hl', hs⟩ := ha _ (.inl rfl) c i hb
    have hv' := (take1_get hs).trans hv
    obtain ⟨h1, h2⟩ := run_agree (k v) r hm fun x hx => ha x (.inr hx)
    refine ⟨?_, ?_⟩
    · simp only [AM.run, hb', hv', h1]
    · simp only [AM.reads, hb', hb, hv, hv', h2]
  | .info b k, r, hm, ha => by
    obtain ⟨c, i, hb, hm⟩ := info_run hm
    simp only [AM.reads, hb, List.mem_cons] at ha
    obtain ⟨c', hb', hl'⟩ := ha _ (.inl rfl) c i hb
    obtain ⟨h1, h2⟩ := run_agree (k i c.length) r hm fun x hx => ha x (.inr hx)
    refine ⟨?_, ?_⟩
    · simp only [AM.run, hb', hl', h1]
    · simp only [AM.reads, hb', hb, hl', h2]
  | .blk b k, r, hm, ha => by
    obtain ⟨x, hb, hm⟩ := blk_run hm
    simp only [AM.reads, hb, List.mem_cons] at ha
    have hb' : h'[b]? = h[b]? := ha _ (.inl rfl)
    obtain ⟨h1, h2⟩ := run_agree (k x) r hm fun x hx => ha x (.inr hx)
    refine ⟨?_, ?_⟩
    · simp only [AM.run, hb', hb, h1]
    · simp only [AM.reads, hb', hb, h2]

/-! An operation hangs on its operands alone. -/
theorem evOp_congr {P : Program} {flat : TypeId → Option (List Nat)} {nid : Nat} {op : Op} {ρ ρ' : Operand → AV} (h : ∀ x ∈ op.operands, ρ x = ρ' x) : evOp P flat nid op ρ = evOp P flat nid op ρ' := by
  have pairs : ∀ ps : Array (Nat × Operand), (∀ x ∈ ps.toList.map (·.2), ρ x = ρ' x) → (ps.toList.map fun p => (p.1, ρ p.2)) = (ps.toList.map fun p => (p.1, ρ' p.2)) := fun ps hp =>
    List.map_congr_left fun p hm => by rw [hp p.2 (List.mem_map.2 ⟨p, hm, rfl⟩)]
  have many : ∀ l : Array Operand, (∀ x ∈ l, ρ x = ρ' x) → l.toList.map ρ = l.toList.map ρ' := fun l hl => List.map_congr_left fun x hx => hl x (by simpa using hx)
  cases op with
  | build t ps =>
    simp only [Op.operands] at h
    simp only [evOp, pairs ps fun x hx => h x (by simpa using hx)]
  | buildSlice t n ps =>
    simp only [Op.operands] at h
    simp only [evOp, pairs ps fun x hx => h x (by simpa using hx)]
  | makeFunc fn a b =>
    simp only [Op.operands] at h
    cases fn <;> simp only [evOp]
    rw [many a fun x hx => h x (by simp [hx]), many b fun x hx => h x (by simp [hx])]
  | call c =>
    simp only [Op.operands, Call.operands] at h
    simp only [evOp]
    rw [many c.args fun x hx => h x (by simp [hx])]
  | makeMap t r =>
    simp only [Op.operands] at h
    cases r with
    | none => rfl
    | some x => simp only [evOp, h x (by simp)]
  | slice t x lo hi mx =>
    simp only [Op.operands] at h
    simp only [evOp, h x (by simp)]
    have e1 : lo.map ρ = lo.map ρ' := by cases lo <;> simp_all
    have e2 : hi.map ρ = hi.map ρ' := by cases hi <;> simp_all
    have e3 : mx.map ρ = mx.map ρ' := by cases mx <;> simp_all
    rw [e1, e2, e3]
  | _ =>
    simp only [Op.operands] at h
    first
      | rfl
      | (simp only [evOp]; simp_all; done)

/-! Slots -/
theorem RT.put_comm (v u : AV) : ∀ (t : RT) (d e : Nat), d ≠ e → (t.put v d).put u e = (t.put u e).put v d
  | .leaf, _, _, _ => rfl
  | .node x l r, d, e, h => by
    simp only [RT.put]
    cases h1 : Nat.beq d 1 with
    | true =>
      cases h2 : Nat.beq e 1 with
      | true => exact absurd ((Nat.eq_of_beq_eq_true h1).trans (Nat.eq_of_beq_eq_true h2).symm) h
      | false =>
        simp only [cond_true, cond_false]
        cases h3 : Nat.beq (e % 2) 0 <;> simp only [cond_true, cond_false, RT.put, h1, h2, h3]
    | false =>
      cases h2 : Nat.beq e 1 with
      | true =>
        simp only [cond_true, cond_false]
        cases h3 : Nat.beq (d % 2) 0 <;> simp only [cond_true, cond_false, RT.put, h1, h2, h3]
      | false =>
        simp only [cond_false]
        cases h3 : Nat.beq (d % 2) 0 <;> cases h4 : Nat.beq (e % 2) 0 <;> simp only [cond_true, cond_false, RT.put, h1, h2, h3, h4]
        · have h5 : d % 2 ≠ 0 := fun e => by rw [e] at h3; cases h3
          have h6 : e % 2 ≠ 0 := fun e => by rw [e] at h4; cases h4
          rw [RT.put_comm v u r _ _ (by omega)]
        · have h5 := Nat.eq_of_beq_eq_true h3
          have h6 := Nat.eq_of_beq_eq_true h4
          rw [RT.put_comm v u l _ _ (by omega)]
theorem RG.put_comm (r : RG) {i j : Nat} (v u : AV) (h : i ≠ j) : (r.put i v).put j u = (r.put j u).put i v := by
  unfold RG.put
  cases h1 : Nat.blt i r.n <;> cases h2 : Nat.blt j r.n <;> simp only [cond_true, cond_false, h1, h2]
  rw [RT.put_comm v u _ _ _ (by omega)]
theorem RG.get_put_other (r : RG) {i j : Nat} (v : AV) (h : j ≠ i) : (r.put i v).get j = r.get j := by
  rcases RG.get_put r i v j with ⟨_, g⟩ | ⟨g, _⟩ | ⟨g, _⟩
  · exact g
  · exact absurd g h
  · exact absurd g h
theorem putT_comm (r : RG) {d e : Option Tmp} (v u : AV) (h : ∀ i, d = some i → e ≠ some i) : putT (putT r d v) e u = putT (putT r e u) d v := by
  cases d with
  | none => rfl
  | some i => cases e with
    | none => rfl
    | some j => exact RG.put_comm r v u fun e => h i rfl (by rw [e])

/-! What two operations do, in either order. -/
def addE (bs : List AB) (nid : Nat) : WL → List (Nat × Nat)
  | .none => []
  | .new b => if nid = bs.length then [] else if b.top ≤ nid + 1 then [] else [(nid, b.top)]
  | .put b _ vs => match bs[b]? with
    | some (.cells ..) => if topL vs ≤ b + 1 then [] else [(b, topL vs)]
    | _ => []
  | .blk b x => match x with
    | .cells _ i => if i.cl then [] else [(b, bs.length)]
    | .dead => []
    | .void => []
    | .map es => if (AB.map es).top ≤ b + 1 then [] else [(b, bs.length)]
    | _ => [(b, bs.length)]
theorem app_esc (h : H) (nid : Nat) (w : WL) : (h.app nid w).esc = addE h.bs nid w ++ h.esc := by
  cases w with
  | none => rfl
  | new b =>
    simp only [H.app, addE]
    split
    · rfl
    · simp only
      split <;> rfl
  | put b off vs =>
    simp only [H.app, addE]
    cases hb : h.bs[b]? with
    | none => rfl
    | some x =>
      cases x with
      | cells c i =>
        simp only
        split <;> rfl
      | _ => rfl
  | blk b x =>
    cases x with
    | cells c i => simp only [H.app, addE]; cases i.cl <;> rfl
    | map es => simp only [H.app, addE]; split <;> rfl
    | _ => rfl
theorem books_add {nid : Nat} {w : WL} (h : w.books nid = false) (bs : List AB) : addE bs nid w = [] := by
  cases w with
  | none => rfl
  | new b =>
    simp only [WL.books, Bool.not_eq_false', decide_eq_true_eq] at h
    simp only [addE, if_pos h]
    split <;> rfl
  | put b off vs =>
    simp only [WL.books, Bool.not_eq_false', decide_eq_true_eq] at h
    simp only [addE, if_pos h]
    split <;> rfl
  | blk b x =>
    cases x with
    | cells c i =>
      simp only [WL.books, Bool.not_eq_false'] at h
      simp [addE, h]
    | _ => simp [WL.books] at h
theorem splice_comm (c : List AV) {off off' : Nat} {vs vs' : List AV} (h : off + vs.length ≤ off' ∨ off' + vs'.length ≤ off) : splice (splice c off vs) off' vs' = splice (splice c off' vs') off vs := by
  apply List.ext_getElem?
  intro j
  simp only [splice_get, splice_len]
  split <;> split <;> first | rfl | omega
theorem splice_part (c : List AV) {off n off' : Nat} {vs : List AV} (h : off + n ≤ off' ∨ off' + vs.length ≤ off) : ((splice c off' vs).drop off).take n = (c.drop off).take n := by
  apply List.ext_getElem?
  intro j
  rw [List.getElem?_take, List.getElem?_take]
  split
  · rw [List.getElem?_drop, List.getElem?_drop, splice_get, if_neg (by omega)]
  · rfl
theorem appBs_len (bs : List AB) (nid : Nat) (w : WL) (hn : ∀ x, w = .new x → nid < bs.length) : (appBs bs nid w).length = bs.length := by
  cases w with
  | none => rfl
  | new b =>
    have := hn b rfl
    simp only [appBs, H.app]
    rw [if_neg (by omega)]
    simp
  | put b off vs =>
    simp only [appBs, H.app]
    split <;> simp
  | blk b x => simp [appBs, H.app]
theorem appBs_new {bs : List AB} {nid : Nat} (x : AB) (h : nid < bs.length) : appBs bs nid (.new x) = bs.set nid x := by
  simp only [appBs, H.app]
  rw [if_neg (by omega)]
/-- At another block than the one that is written. -/
def WL.at_ (nid : Nat) : WL → Option Nat
  | .none => Option.none
  | .new _ => some nid
  | .put b _ _ => some b
  | .blk b _ => some b
theorem appBs_other {bs : List AB} {nid : Nat} {w : WL} (hn : ∀ x, w = .new x → nid < bs.length) {b : Nat} (h : w.at_ nid ≠ some b) : (appBs bs nid w)[b]? = bs[b]? := by
  cases w with
  | none => rfl
  | new x =>
    rw [appBs_new x (hn x rfl), List.getElem?_set, if_neg fun e => h (by rw [← e]; rfl)]
  | put d off vs =>
    simp only [appBs, H.app]
    split
    · simp only
      rw [List.getElem?_set, if_neg fun e => h (by rw [← e]; rfl)]
    · rfl
  | blk d x =>
    simp only [appBs, H.app]
    rw [List.getElem?_set, if_neg fun e => h (by rw [← e]; rfl)]
/-- What is set there, over what stands there. -/
def WL.val (cur : Option AB) : WL → Option AB
  | .none => Option.none
  | .new x => some x
  | .put _ off vs => match cur with
    | some (.cells c i) => some (.cells (splice c off vs) i)
    | _ => Option.none
  | .blk _ x => some x
theorem appBs_eq (bs : List AB) (nid : Nat) (w : WL) (hn : ∀ x, w = .new x → nid < bs.length) : appBs bs nid w = match w.at_ nid with
    | none => bs
    | some b => match w.val bs[b]? with
      | some x => bs.set b x
      | none => bs := by
  cases w with
  | none => rfl
  | new x => exact appBs_new x (hn x rfl)
  | put d off vs =>
    simp only [appBs, H.app, WL.at_, WL.val]
    cases bs[d]? with
    | none => rfl
    | some x => cases x <;> rfl
  | blk d x => rfl
theorem apartWW_cases {na nb : Nat} {a b : WL} (h : apartWW na nb (.w a) (.w b) = true) :
    a = .none ∨ b = .none ∨ ((a.books na = false ∨ b.books nb = false) ∧ (a.at_ na ≠ b.at_ nb ∨ ∃ d off vs off' vs', a = .put d off vs ∧ b = .put d off' vs' ∧ (off + vs.length ≤ off' ∨ off' + vs'.length ≤ off))) := by
  have key : ∀ (p q : Bool) (r : Bool), (!(p && q) && r) = true → (p = false ∨ q = false) ∧ r = true := by
    intro p q r hh
    cases p <;> cases q <;> cases r <;> simp_all
  cases a with
  | none => exact .inl rfl
  | new x =>
    cases b with
    | none => exact .inr (.inl rfl)
    | new y =>
      obtain ⟨h1, h2⟩ := key _ _ _ h
      exact .inr (.inr ⟨h1, .inl fun e => by simp [WL.at_] at e; simp [e] at h2⟩)
    | put d off vs =>
      obtain ⟨h1, h2⟩ := key _ _ _ h
      exact .inr (.inr ⟨h1, .inl fun e => by simp [WL.at_] at e; simp [e] at h2⟩)
    | blk d y =>
      obtain ⟨h1, h2⟩ := key _ _ _ h
      exact .inr (.inr ⟨h1, .inl fun e => by simp [WL.at_] at e; simp [e] at h2⟩)
  | put d off vs =>
    cases b with
    | none => exact .inr (.inl rfl)
    | new y =>
      obtain ⟨h1, h2⟩ := key _ _ _ h
      exact .inr (.inr ⟨h1, .inl fun e => by simp [WL.at_] at e; simp [e] at h2⟩)
    | put d' off' vs' =>
      obtain ⟨h1, h2⟩ := key _ _ _ h
      refine .inr (.inr ⟨h1, ?_⟩)
      by_cases hd : d = d'
      · subst hd
        simp at h2
        exact .inr ⟨d, off, vs, off', vs', rfl, rfl, h2⟩
      · exact .inl fun e => hd (by simpa [WL.at_] using e)
    | blk d' y =>
      obtain ⟨h1, h2⟩ := key _ _ _ h
      exact .inr (.inr ⟨h1, .inl fun e => by simp [WL.at_] at e; simp [e] at h2⟩)
  | blk d x =>
    cases b with
    | none => exact .inr (.inl rfl)
    | new y =>
      obtain ⟨h1, h2⟩ := key _ _ _ h
      exact .inr (.inr ⟨h1, .inl fun e => by simp [WL.at_] at e; simp [e] at h2⟩)
    | put d' off' vs' =>
      obtain ⟨h1, h2⟩ := key _ _ _ h
      exact .inr (.inr ⟨h1, .inl fun e => by simp [WL.at_] at e; simp [e] at h2⟩)
    | blk d' y =>
      obtain ⟨h1, h2⟩ := key _ _ _ h
      exact .inr (.inr ⟨h1, .inl fun e => by simp [WL.at_] at e; simp [e] at h2⟩)
theorem appBs_far (bs : List AB) {na nb : Nat} {a b : WL} (ha : ∀ x, a = .new x → na < bs.length) (hb : ∀ x, b = .new x → nb < bs.length) (h : a.at_ na ≠ b.at_ nb) : appBs (appBs bs na a) nb b = appBs (appBs bs nb b) na a := by
  have la := appBs_len bs na a ha
  have lb := appBs_len bs nb b hb
  rw [appBs_eq (appBs bs na a) nb b (fun x hx => by rw [la]; exact hb x hx), appBs_eq (appBs bs nb b) na a (fun x hx => by rw [lb]; exact ha x hx)]
  cases hx : a.at_ na with
  | none =>
    have : a = .none := by cases a <;> simp [WL.at_] at hx ⊢
    subst this
    simp only
    rw [show appBs bs na .none = bs from rfl, ← appBs_eq bs nb b hb]
  | some x =>
    cases hy : b.at_ nb with
    | none =>
      have : b = .none := by cases b <;> simp [WL.at_] at hy ⊢
      subst this
      simp only
      rw [show appBs bs nb .none = bs from rfl]
      have := appBs_eq bs na a ha
      rw [hx] at this
      exact this
    | some y =>
      have hxy : x ≠ y := fun e => h (by rw [hx, hy, e])
      simp only
      rw [appBs_other ha (by rw [hx]; intro e; cases e; exact hxy rfl), appBs_other hb (by rw [hy]; intro e; cases e; exact hxy rfl)]
      rw [appBs_eq bs na a ha, appBs_eq bs nb b hb, hx, hy]
      simp only
      cases a.val bs[x]? with
      | none => cases b.val bs[y]? <;> rfl
      | some u =>
        cases b.val bs[y]? with
        | none => rfl
        | some v => exact List.set_comm _ _ hxy
theorem addE_far (bs : List AB) {na nb : Nat} {a b : WL} (ha : ∀ x, a = .new x → na < bs.length) (h : a.at_ na ≠ b.at_ nb ∨ ∃ d off vs off' vs', a = .put d off vs ∧ b = .put d off' vs' ∧ (off + vs.length ≤ off' ∨ off' + vs'.length ≤ off)) :
    addE (appBs bs na a) nb b = addE bs nb b := by
  have la := appBs_len bs na a ha
  cases b with
  | none => rfl
  | new y => simp only [addE, la]
  | blk d y => simp only [addE, la]
  | put d off vs =>
    simp only [addE]
    rcases h with h | ⟨d', o1, v1, o2, v2, rfl, hb, _⟩
    · rw [appBs_other ha h]
    · cases hb
      simp only [appBs, H.app]
      cases hd : bs[d]? with
      | none => simp only [hd]
      | some x =>
        cases x with
        | cells c i =>
          have := (List.getElem?_eq_some_iff.1 hd).1
          simp [this]
        | _ => simp only [hd]
theorem app_comm {σ : H} {na nb : Nat} {a b : WL} (ha : ∀ x, a = .new x → na < σ.bs.length) (hb : ∀ x, b = .new x → nb < σ.bs.length) (h : apartWW na nb (.w a) (.w b) = true) : (σ.app na a).app nb b = (σ.app nb b).app na a := by
  rcases apartWW_cases h with rfl | rfl | ⟨hk, hf⟩
  · rfl
  · rfl
  · have e1 : ∀ (h : H) (n : Nat) (w : WL), h.app n w = ⟨appBs h.bs n w, addE h.bs n w ++ h.esc⟩ := fun h n w => by
      rw [← app_esc, ← app_bs]
    rw [e1 (σ.app na a), e1 (σ.app nb b), app_bs, app_bs, app_esc, app_esc]
    have hf' : b.at_ nb ≠ a.at_ na ∨ ∃ d off vs off' vs', b = .put d off vs ∧ a = .put d off' vs' ∧ (off + vs.length ≤ off' ∨ off' + vs'.length ≤ off) := by
      rcases hf with hf | ⟨d, o1, v1, o2, v2, h1, h2, h3⟩
      · exact .inl fun e => hf e.symm
      · exact .inr ⟨d, o2, v2, o1, v1, h2, h1, h3.symm⟩
    rw [addE_far σ.bs ha hf, addE_far σ.bs hb hf']
    congr 1
    · rcases hf with hf | ⟨d, o1, v1, o2, v2, rfl, rfl, h3⟩
      · exact appBs_far σ.bs ha hb hf
      · simp only [appBs, H.app]
        cases hd : σ.bs[d]? with
        | none => simp only [hd]
        | some x =>
          cases x with
          | cells c i =>
            have := (List.getElem?_eq_some_iff.1 hd).1
            have e1 : ∀ y : AB, (σ.bs.set d y)[d]? = some y := fun y => by simp [this]
            simp only [e1, List.set_set]
            rw [splice_comm c h3]
          | _ => simp only [hd]
    · rcases hk with hk | hk
      · rw [books_add hk]; rfl
      · rw [books_add hk]; rfl

theorem sameInfo_eq {i j : BI} (h : sameInfo i j = true) : i = j := by
  obtain ⟨a, b, c, d⟩ := i
  obtain ⟨a', b', c', d'⟩ := j
  simp [sameInfo] at h
  rw [h.1.1.1, h.1.1.2, h.1.2, h.2]
theorem agree_same {h h' : List AB} {b : Nat} (e : h'[b]? = h[b]?) : (∀ off n, agree h h' (.cells b off n)) ∧ agree h h' (.info b) ∧ agree h h' (.blk b) :=
  ⟨fun _ _ c i hc => ⟨c, i, e.trans hc, rfl, rfl⟩, fun c _ hc => ⟨c, e.trans hc, rfl⟩, e⟩
theorem apart_agree {σ h : H} {nid : Nat} {w : WR} {r : RL} (hw : apartW nid h w r = true) (hn : ∀ x, w = .w (.new x) → nid < σ.bs.length) (hh : ∀ h', w = .heap h' → σ = h) :
    (w.app nid σ = σ) ∨ (agree σ.bs (w.app nid σ).bs r ∧ agree (w.app nid σ).bs σ.bs r) := by
  cases w with
  | w x =>
    have hn' : ∀ y, x = .new y → nid < σ.bs.length := fun y hy => hn y (by rw [hy])
    have hap : (WR.app (.w x) nid σ).bs = appBs σ.bs nid x := app_bs _ _ _
    rw [hap]
    have far : ∀ b, x.at_ nid ≠ some b → (appBs σ.bs nid x)[b]? = σ.bs[b]? := fun b hb => appBs_other hn' hb
    cases x with
    | none => exact .inl rfl
    | new y =>
      refine .inr ?_
      cases r with
      | cells b off n =>
        have e := far b (by simp [WL.at_]; simpa [apartW] using hw)
        exact ⟨(agree_same e).1 _ _, (agree_same e.symm).1 _ _⟩
      | info b =>
        have e := far b (by simp [WL.at_]; simpa [apartW] using hw)
        exact ⟨(agree_same e).2.1, (agree_same e.symm).2.1⟩
      | blk b =>
        have e := far b (by simp [WL.at_]; simpa [apartW] using hw)
        exact ⟨(agree_same e).2.2, (agree_same e.symm).2.2⟩
      | all => simp [apartW] at hw
    | blk d y =>
      refine .inr ?_
      cases r with
      | cells b off n =>
        have hne : b ≠ d := by simpa [apartW] using hw
        have e := far b (by simp [WL.at_]; exact fun e => hne e.symm)
        exact ⟨(agree_same e).1 _ _, (agree_same e.symm).1 _ _⟩
      | info b =>
        have hne : b ≠ d := by simpa [apartW] using hw
        have e := far b (by simp [WL.at_]; exact fun e => hne e.symm)
        exact ⟨(agree_same e).2.1, (agree_same e.symm).2.1⟩
      | blk b =>
        have hne : b ≠ d := by simpa [apartW] using hw
        have e := far b (by simp [WL.at_]; exact fun e => hne e.symm)
        exact ⟨(agree_same e).2.2, (agree_same e.symm).2.2⟩
      | all => simp [apartW] at hw
    | put d o vs =>
      refine .inr ?_
      have here : ∀ c i, σ.bs[d]? = some (.cells c i) → (appBs σ.bs nid (.put d o vs))[d]? = some (.cells (splice c o vs) i) := fun c i hc => by
        simp only [appBs, H.app, hc]
        simp [(List.getElem?_eq_some_iff.1 hc).1]
      have back : ∀ c i, (appBs σ.bs nid (.put d o vs))[d]? = some (.cells c i) → ∃ c0, σ.bs[d]? = some (.cells c0 i) ∧ c = splice c0 o vs := fun c i hc => by
        cases hd : σ.bs[d]? with
        | none =>
          simp only [appBs, H.app, hd] at hc
          cases hc
        | some x =>
          cases x with
          | cells c0 i0 =>
            rw [here c0 i0 hd] at hc
            cases hc
            exact ⟨c0, rfl, rfl⟩
          | _ =>
            simp only [appBs, H.app, hd] at hc
            cases hc
      cases r with
      | cells b off n =>
        by_cases hbd : b = d
        · subst hbd
          have hdis : off + n ≤ o ∨ o + vs.length ≤ off := by simpa [apartW] using hw
          refine ⟨fun c i hc => ⟨_, _, here c i hc, splice_len _ _ _, splice_part c hdis⟩, fun c i hc => ?_⟩
          obtain ⟨c0, h0, rfl⟩ := back c i hc
          exact ⟨c0, i, h0, (splice_len _ _ _).symm, (splice_part c0 hdis).symm⟩
        · have e := far b (by simp [WL.at_]; exact fun e => hbd e.symm)
          exact ⟨(agree_same e).1 _ _, (agree_same e.symm).1 _ _⟩
      | info b =>
        by_cases hbd : b = d
        · subst hbd
          refine ⟨fun c i hc => ⟨_, here c i hc, splice_len _ _ _⟩, fun c i hc => ?_⟩
          obtain ⟨c0, h0, rfl⟩ := back c i hc
          exact ⟨c0, h0, (splice_len _ _ _).symm⟩
        · have e := far b (by simp [WL.at_]; exact fun e => hbd e.symm)
          exact ⟨(agree_same e).2.1, (agree_same e.symm).2.1⟩
      | blk b =>
        have hne : b ≠ d := by simpa [apartW] using hw
        have e := far b (by simp [WL.at_]; exact fun e => hne e.symm)
        exact ⟨(agree_same e).2.2, (agree_same e.symm).2.2⟩
      | all => simp [apartW] at hw
  | heap h' =>
    have e := hh h' rfl
    subst e
    refine .inr ?_
    show agree σ.bs h'.bs r ∧ agree h'.bs σ.bs r
    cases r with
    | cells b off n =>
      simp only [apartW] at hw
      split at hw
      · rename_i c i c' i' h1 h2
        simp only [Bool.and_eq_true, beq_iff_eq] at hw
        have e := sameL_eq _ _ hw.2
        refine ⟨fun c0 i0 h0 => ?_, fun c0 i0 h0 => ?_⟩
        · rw [h1] at h0; cases h0
          exact ⟨c', i', h2, hw.1.1.symm, e.symm⟩
        · rw [h2] at h0; cases h0
          exact ⟨c, i, h1, hw.1.1, e⟩
      · cases hw
    | info b =>
      simp only [apartW] at hw
      split at hw
      · rename_i c i c' i' h1 h2
        simp only [Bool.and_eq_true, beq_iff_eq] at hw
        have e := sameInfo_eq hw.2
        subst e
        refine ⟨fun c0 i0 h0 => ?_, fun c0 i0 h0 => ?_⟩
        · rw [h1] at h0; cases h0
          exact ⟨c', h2, hw.1.symm⟩
        · rw [h2] at h0; cases h0
          exact ⟨c, h1, hw.1⟩
      · cases hw
    | blk b =>
      simp only [apartW] at hw
      split at hw
      · rename_i h1 h2
        exact ⟨h2.trans h1.symm, h1.trans h2.symm⟩
      · cases hw
    | all => simp [apartW] at hw
end Go.Proofs.Ytnkeijebkpjdgaa.Ab
