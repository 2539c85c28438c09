import Derived.Test.YtbebcbcnibfbhaaEP
import Derived.RangeFuncRecord
/- The engine, seventeenth text: states, marks, calls; regions that keep the text's order. -/
namespace Go.Proofs.Ytbebcbcnibfbhaa.Ab
open Go

section
variable {K : KS} {bs : List AB} {hp : Array Obj}
theorem ObjR.top {k : Nat} {x : AB} {o : Obj} (h : ObjR K bs hp k x o) (hl : x.live = true) : x.top ≤ bs.length := by
  cases x with
  | cells c i =>
    obtain ⟨cc, e, lo, hi, us, h1, h2, h3, h4, h5, h6⟩ := h
    simp only [AB.top]
    have := h5.top_le
    cases i.cl <;> simp <;> omega
  | map es =>
    obtain ⟨ces, cl, h1, h2, h3, h4⟩ := h
    simp only [AB.top]
    have := h2.top_le
    have := h3.top_le
    omega
  | loop f t p a c s j =>
    obtain ⟨l, h1, h2, h3, h4, h5, h6, h7⟩ := h
    exact h7.top
  | dead => cases hl
  | void => cases hl
theorem HR.top (hr : HR K bs hp) {b : Nat} {x : AB} (hx : bs[b]? = some x) : x.top ≤ bs.length := by
  cases hl : x.live with
  | true =>
    obtain ⟨o, _, hR⟩ := hr.obj b x hx hl
    exact hR.top hl
  | false => cases x <;> simp_all [AB.live, AB.top]
/-- What an operation does keeps the book of who names whom. -/
theorem esc_app {h : H} (he : EscR h) {nid : Nat} {wl : WL} {K' : KS} {hp' : Array Obj} (hr : HR K' (h.app nid wl).bs hp') : EscR (h.app nid wl) := by
  cases wl with
  | none => exact he
  | new b =>
    simp only [H.app] at hr ⊢
    split
    · rename_i hnl
      rw [if_pos hnl] at hr
      intro c x hx
      rw [List.getElem?_append] at hx
      split at hx
      · exact he c x hx
      · rename_i hc
        have hx0 := hx
        have hlt := (List.getElem?_eq_some_iff.1 hx).1
        have hce : c = h.bs.length := by simp at hlt; omega
        subst hce
        have : (h.bs ++ [b])[h.bs.length]? = some x := by simpa using hx
        have := hr.top this
        simp at this
        exact .inl this
    · rename_i hnl
      intro c x hx
      simp only at hx
      rw [List.getElem?_set] at hx
      split at hx
      · rename_i hc
        subst hc
        split at hx
        · cases hx
          dsimp only
          split
          · rename_i ht; exact .inl ht
          · exact .inr ⟨(nid, b.top), by simp, rfl, Nat.le_refl _⟩
        · cases hx
      · rcases he c x hx with h1 | ⟨e, h1, h2⟩
        · exact .inl h1
        · refine .inr ⟨e, ?_, h2⟩
          dsimp only
          split
          · exact h1
          · exact List.mem_cons_of_mem _ h1
  | put b off vs =>
    simp only [H.app] at hr ⊢
    split
    · rename_i c i hb
      intro d x hx
      simp only at hx
      rw [List.getElem?_set] at hx
      split at hx
      · rename_i hd
        subst hd
        split at hx
        · cases hx
          dsimp only
          by_cases hcl : i.cl = true
          · exact .inl (by simp [AB.top, hcl])
          · have hcl' : i.cl = false := by simpa using hcl
            have ht : (AB.cells (splice c off vs) i).top ≤ max (topL c) (topL vs) := by
              simp only [AB.top, hcl', Bool.false_eq_true, if_false]
              refine topL_le fun a ha => ?_
              have : a ∈ c ∨ a ∈ vs := splice_mem ha
              rcases this with h1 | h1
              · have := top_le_topL h1; omega
              · have := top_le_topL h1; omega
            have hold := he b _ hb
            simp only [AB.top, hcl', Bool.false_eq_true, if_false] at hold
            split
            · rename_i hv
              rcases hold with h1 | ⟨e, h1, h2, h3⟩
              · exact .inl (by omega)
              · by_cases hlt : topL c ≤ b + 1
                · exact .inl (by omega)
                · exact .inr ⟨e, h1, h2, by omega⟩
            · rename_i hv
              by_cases hcv : topL c ≤ topL vs
              · exact .inr ⟨(b, topL vs), by simp, rfl, by simp only; omega⟩
              · rcases hold with h1 | ⟨e, h1, h2, h3⟩
                · exact .inl (by omega)
                · exact .inr ⟨e, List.mem_cons_of_mem _ h1, h2, by omega⟩
        · cases hx
      · rcases he d x hx with h1 | ⟨e, h1, h2⟩
        · exact .inl h1
        · refine .inr ⟨e, ?_, h2⟩
          dsimp only
          split
          · exact h1
          · exact List.mem_cons_of_mem _ h1
    · exact he
  | blk b x =>
    simp only [H.app] at hr ⊢
    intro d y hy
    simp only at hy
    have htop := hr.top hy
    rw [List.length_set] at htop
    rw [List.getElem?_set] at hy
    split at hy
    · rename_i hd
      subst hd
      split at hy
      · cases hy
        cases x with
        | dead => exact .inl (Nat.zero_le _)
        | void => exact .inl (Nat.zero_le _)
        | cells c i =>
          dsimp only
          cases hc : i.cl with
          | true => exact .inl (by simp [AB.top, hc])
          | false => exact .inr ⟨(b, h.bs.length), by simp, rfl, htop⟩
        | map es => exact .inr ⟨(b, h.bs.length), by simp, rfl, htop⟩
        | loop => exact .inr ⟨(b, h.bs.length), by simp, rfl, htop⟩
      · cases hy
    · rcases he d y hy with h1 | ⟨e, h1, h2⟩
      · exact .inl h1
      · refine .inr ⟨e, ?_, h2⟩
        cases x with
        | dead => exact h1
        | void => exact h1
        | cells c i =>
          dsimp only
          cases i.cl with
          | true => exact h1
          | false => exact List.mem_cons_of_mem _ h1
        | map es => exact List.mem_cons_of_mem _ h1
        | loop => exact List.mem_cons_of_mem _ h1
theorem img_kind (hr : HR K bs hp) {c : Nat} (hc : Img K bs c) {d : Option (List Deferred)} : hp[c]? ≠ some (.deferred d) := by
  obtain ⟨b, x, hx, hw, rfl⟩ := hc
  obtain ⟨o, ho, hR⟩ := hr.obj b x hx (wrt_live hw)
  intro he
  rw [he] at ho
  cases ho
  cases x with
  | cells c i => obtain ⟨cc, e, lo, hi, us, h1, _⟩ := hR; cases h1
  | map es => obtain ⟨ces, cl, h1, _⟩ := hR; cases h1
  | loop f t p a c s j => obtain ⟨l, h1, _⟩ := hR; cases h1
  | dead => cases hw
  | void => cases hw
end

/-! States -/
def fence (ro : Option Nat) : Fence := { Fence.wide with round := ro }
/-- The marks that loops over functions have left: their blocks are empty, and nobody else's. -/
def Marks (n0 : Nat) (K : KS) (w : World) (ds : List Deferred) : Prop :=
  n0 ≤ w.heap.size ∧ ∃ Ds : List Nat, ds = Ds.map (fun D => { target := .collected D, args := #[] }) ∧ Ds.Nodup ∧ ∀ D ∈ Ds, n0 ≤ D ∧ w.heap[D]? = some (.deferred (some [])) ∧ ¬ K.I D
theorem Marks.goes {n0 : Nat} {K K' : KS} {bs bs' : List AB} {w w' : World} {ds : List Deferred} (h : Marks n0 K w ds) (hr : HR K bs w.heap) (hg : Goes K bs w K' bs' w') : Marks n0 K' w' ds := by
  obtain ⟨h0, Ds, h1, h2, h3⟩ := h
  refine ⟨Nat.le_trans h0 hg.tr.size, Ds, h1, h2, fun D hD => ?_⟩
  obtain ⟨g1, g2, g3⟩ := h3 D hD
  have hi : ¬ Img K bs D := fun hi => img_kind hr hi g2
  have hlt := (Array.getElem?_eq_some_iff.1 g2).1
  refine ⟨g1, (hg.tr.keep D hlt hi).trans g2, fun h => ?_⟩
  rcases hg.tr.inew D h with h | h | h
  · exact g3 h
  · omega
  · exact hi h
theorem Marks.nil {n0 : Nat} {w : World} (h : n0 ≤ w.heap.size) (K : KS) : Marks n0 K w [] := ⟨h, [], rfl, .nil, fun D h => by cases h⟩
structure SR (n0 : Nat) (K : KS) (s : ST) (a : Act) (w : World) : Prop where
  hr : HR K s.h.bs w.heap
  esc : EscR s.h
  reg : RegR K s.h.bs w.heap s.tmps a.tmps
  marks : Marks n0 K w a.defers
def PanicR (K : KS) (bs : List AB) (hp : Array Obj) (v : AV) (chain : List PanicEntry) : Prop := ∃ v', chain = [{ v := v', recovered := false }] ∧ RepV K bs hp v v'
def ExR (K : KS) (bs : List AB) (hp : Array Obj) : AX → Exit → Prop
  | .normal, .normal => True
  | .exit i, .exit j => i = j
  | .goto i, .goto j => i = j
  | .ret, .ret => True
  | .panic v, .panic chain => PanicR K bs hp v chain
  | _, _ => False
def PostR (n0 : Nat) (K : KS) (s : ST) (w : World) (x : AX) (s' : ST) : Exit → Act → World → Prop :=
  fun e a' w' => ∃ K', Goes K s.h.bs w K' s'.h.bs w' ∧ SR n0 K' s' a' w' ∧ ExR K' s'.h.bs w'.heap x e
def EndR (K : KS) (bs : List AB) (hp : Array Obj) : AR → Ending → Prop
  | .ret v, .returned v' => RepV K bs hp v v'
  | .panic v, .panicked chain => PanicR K bs hp v chain
  | _, _ => False
def DoneR (K : KS) (h : H) (w : World) (r : AR) (h' : H) : Ending → World → Prop :=
  fun e w' => ∃ K', Goes K h.bs w K' h'.bs w' ∧ EscR h' ∧ EndR K' h'.bs w'.heap r e
/-- A call of a function's value, in the machine: of a function, of a loop's round. -/
def MCall (P : Program) (fval : Value) (vals : Array Value) (w : World) (R : Ending → World → Prop) : Prop :=
  (∃ f first cap, fval = .func (.func f) first cap ∧ (callFunc f (first ++ vals ++ cap)).run P w = .ok (.enter f (first ++ vals ++ cap)) w ∧ Calls P f (first ++ vals ++ cap) w R) ∨
  (∃ l fn tmps assign body, fval = .func (.yield l) #[] #[] ∧ (Instr.yield l vals).run P w = .ok (.round l fn tmps assign body) w ∧ RoundIn Fence.wide 0 P l fn tmps assign body w R)
theorem MCall.mono {P : Program} {fval : Value} {vals : Array Value} {w : World} {R R' : Ending → World → Prop} (h : MCall P fval vals w R) (hr : ∀ e w', R e w' → R' e w') : MCall P fval vals w R' := by
  rcases h with ⟨f, a, b, h1, h2, h3⟩ | ⟨l, fn, t, a, b, h1, h2, h3⟩
  · exact .inl ⟨f, a, b, h1, h2, h3.mono hr⟩
  · exact .inr ⟨l, fn, t, a, b, h1, h2, h3.mono hr⟩
def CallSound (P : Program) (call : CallF) : Prop :=
  ∀ (from_ : FuncId) (fv : AV) (as_ : List AV) (h : H) (r : AR) (h' : H) (K : KS) (w : World) (fval : Value) (vals : List Value), call from_ fv as_ h = some (r, h') → HR K h.bs w.heap → EscR h → RepV K h.bs w.heap fv fval → RepVL K h.bs w.heap as_ vals →
    MCall P fval vals.toArray w (DoneR K h w r h')

section step
variable {P : Program}
theorem room_fence (ro : Option Nat) (n : Nat) : (fence ro).room n := fun _ h => by simp [fence, Fence.wide] at h
/-- A call, as an operation. -/
theorem uponIn_call {ro : Option Nat} {o : Oper} {a : Act} {w : World} {next : Act → World → Prop} {Q : Exit → Act → World → Prop} {fval : Value} {vals : Array Value}
    (h : MCall P fval vals w fun e w' => match e with
      | .returned v => next (a.put o.dst v) w'
      | .panicked chain => Q (.panic chain) a w'
      | .outgrown => False) :
    o.uponIn (fence ro) 0 P a next Q ((do let d ← Deferred.ofValue fval vals; invoke d.target d.args : Sem Next).run P w) := by
  rcases h with ⟨f, first, cap, rfl, h2, h3⟩ | ⟨l, fn, tmps, assign, body, rfl, h2, h3⟩
  · have e : (do let d ← Deferred.ofValue (.func (.func f) first cap) vals; invoke d.target d.args : Sem Next).run P w = .ok (.enter f (first ++ vals ++ cap)) w := by
      simp only [Deferred.ofValue, Sem.run_bind, Sem.run_pure, Result.andThen_ok, invoke]
      exact h2
    rw [e, Oper.uponIn_enter]
    refine ⟨fun h => by simp [fence, Fence.wide] at h, ?_⟩
    have h4 : CallsIn Fence.wide (0 - 1) P f (first ++ vals ++ cap) w _ := callsIn_wide.2 h3
    refine CallsIn.mono (F := fence ro) h4 fun e w' he => ?_
    cases e with
    | returned v => exact he
    | panicked chain => exact he
    | outgrown => exact he.elim
  · have e : (do let d ← Deferred.ofValue (.func (.yield l) #[] #[]) vals; invoke d.target d.args : Sem Next).run P w = .ok (.round l fn tmps assign body) w := by
      simp only [Deferred.ofValue, Sem.run_bind, Sem.run_pure, Result.andThen_ok, invoke]
      rw [show (#[] ++ vals : Array Value) = vals by simp]
      exact h2
    rw [e, Oper.uponIn_round]
    refine ⟨fun h => by simp [fence, Fence.wide] at h, ?_⟩
    refine RoundIn.mono (F := fence ro) h3 fun e w' he => ?_
    cases e with
    | returned v => exact he
    | panicked chain => exact he
    | outgrown => exact he.elim
theorem good_upon {ro : Option Nat} {n : Nat} {o : Oper} {a : Act} {next : Act → World → Prop} {Q : Exit → Act → World → Prop} {r : Result Next} {v : Value} {w' : World} (h : outVal r = some (v, w')) (hn : next (a.put o.dst v) w') :
    o.uponIn (fence ro) n P a next Q r := by
  unfold outVal at h
  split at h
  · cases h; exact hn
  · cases h; exact hn
  · cases h

/-- What a run is over must be so. -/
structure EnvOk (E : Env) : Prop where
  ok : ∀ f, E.ok f = true → ∀ (args : Array Value) (w : World), (callFunc f args).run E.P w = .ok (.enter f args) w
  flat : ∀ t ks, E.flat t = some ks → FlatTy E.P t ks
  mixed : E.P.follows .mixedOrders = true
theorem put_sr {n0 : Nat} {K : KS} {s : ST} {a : Act} {w : World} (hS : SR n0 K s a w) {K' : KS} {h' : H} {w' : World} (hg : Goes K s.h.bs w K' h'.bs w') (he : EscR h') {v : AV} {u : Value} (hv : RepV K' h'.bs w'.heap v u) (dst : Option Tmp) :
    SR n0 K' { tmps := putT s.tmps dst v, h := h' } (a.put dst u) w' := by
  refine ⟨hg.hr, he, putT_rep (hS.reg.mono (hg.lat hS.hr)) hv dst, ?_⟩
  rw [put_defers]
  exact hS.marks.goes hS.hr hg
theorem oper_sound {E : Env} (hE : EnvOk E) {call : CallF} (hc : CallSound E.P call) {ro : Option Nat} {fid : FuncId} {o : Oper} {n0 : Nat} {K : KS} {s : ST} {a : Act} {w : World} (hS : SR n0 K s a w) {next : Act → World → Prop} {Q : Exit → Act → World → Prop}
    (h : (∃ s', evOper E call fid o s = .ok s' ∧ ∀ K' a' w', Goes K s.h.bs w K' s'.h.bs w' → SR n0 K' s' a' w' → next a' w') ∨
      (∃ v s', evOper E call fid o s = .panic v s' ∧ ∀ K' a' w' chain, Goes K s.h.bs w K' s'.h.bs w' → SR n0 K' s' a' w' → PanicR K' s'.h.bs w'.heap v chain → Q (.panic chain) a' w')) :
    o.wpIn (fence ro) 0 E.P a w next Q := by
  refine ⟨fun _ _ => trivial, ?_⟩
  have hρ := opnd_rep hS.reg
  by_cases hcall : ∃ f args ts, o.op = .call { callee := .value f, args, argTypes := ts }
  · obtain ⟨f, args, ts, hop⟩ := hcall
    have hev : evOper E call fid o s = match call fid (opnd s.tmps f) (args.toList.map (opnd s.tmps)) s.h with
      | some (.ret v, h') => .ok { tmps := putT s.tmps o.dst v, h := h' }
      | some (.panic v, h') => .panic v { s with h := h' }
      | none => .no := by
      unfold evOper
      simp only [hop]
      rfl
    rw [Oper.semAt_eq _ _ _ (by rw [hop]; intro c hc; cases hc)]
    have hex : execOp a.eval o = (do let d ← Deferred.ofValue (a.eval f) (args.map a.eval); invoke d.target d.args : Sem Next) := by
      unfold execOp
      rw [hop]
      rfl
    rw [hex]
    rw [hev] at h
    have hvals : RepVL K s.h.bs w.heap (args.toList.map (opnd s.tmps)) (args.map a.eval).toList := by
      rw [Array.toList_map]
      exact RepVL.map fun x _ => hρ x
    cases hcl : call fid (opnd s.tmps f) (args.toList.map (opnd s.tmps)) s.h with
    | none =>
      rw [hcl] at h
      rcases h with ⟨s', h, _⟩ | ⟨v, s', h, _⟩ <;> cases h
    | some r =>
      obtain ⟨r, h'⟩ := r
      have hM := hc _ _ _ _ _ _ _ _ _ _ hcl hS.hr hS.esc (hρ f) hvals
      rw [Array.toArray_toList] at hM
      refine uponIn_call (hM.mono fun e w' he => ?_)
      obtain ⟨K', hg, hesc, hend⟩ := he
      rw [hcl] at h
      cases r with
      | ret v =>
        cases e with
        | returned u =>
          rcases h with ⟨s', h, hn⟩ | ⟨v, s', h, _⟩
          · cases h
            exact hn K' _ _ hg (put_sr hS hg hesc hend _)
          · cases h
        | panicked chain => exact hend.elim
        | outgrown => exact hend.elim
      | panic v =>
        cases e with
        | returned u => exact hend.elim
        | panicked chain =>
          rcases h with ⟨s', h, hn⟩ | ⟨v, s', h, hn⟩
          · cases h
          · cases h
            exact hn K' a w' chain hg ⟨hg.hr, hesc, hS.reg.mono (hg.lat hS.hr), hS.marks.goes hS.hr hg⟩ hend
        | outgrown => exact hend.elim
  · by_cases hpan : ∃ x, o.op = .panic x
    · obtain ⟨x, hop⟩ := hpan
      have hev : evOper E call fid o s = match opnd s.tmps x with
        | .ifc t v => .panic (.ifc t v) s
        | _ => .no := by
        unfold evOper
        simp only [hop]
        rfl
      rw [Oper.semAt_eq _ _ _ (by rw [hop]; intro c hc; cases hc)]
      have hex : execOp a.eval o = (do pure (.value (← Instr.panic (a.eval x))) : Sem Next) := by
        unfold execOp
        rw [hop]
      rw [hex]
      rw [hev] at h
      have hx := hρ x
      cases ho : opnd s.tmps x with
      | ifc t v =>
        rw [ho] at h hx
        obtain ⟨u, hu, hR⟩ := hx.inv_ifc
        rcases h with ⟨s', h, _⟩ | ⟨v, s', h, hn⟩
        · cases h
        · cases h
          have hrun : (do pure (.value (← Instr.panic (a.eval x))) : Sem Next).run E.P w = .halt (.panic (.iface t u)) w := by
            rw [hu]
            rfl
          rw [hrun, Oper.uponIn_panic]
          exact hn K a w _ (Goes.refl hS.hr) hS ⟨_, rfl, .ifc hR⟩
      | _ =>
        rw [ho] at h
        rcases h with ⟨s', h, _⟩ | ⟨v, s', h, _⟩ <;> cases h
    · have hev : evOper E call fid o s = match (evOp E.P E.flat s.h.bs.length o.op (opnd s.tmps)).run s.h.bs with
        | some (v, w) => .ok { tmps := putT s.tmps o.dst v, h := s.h.app s.h.bs.length w }
        | none => .no := by
        unfold evOper
        split
        · rename_i f args ts hop
          exact absurd ⟨f, args, ts, hop⟩ hcall
        · rename_i x hop
          exact absurd ⟨x, hop⟩ hpan
        · rfl
      rw [hev] at h
      cases hm : (evOp E.P E.flat s.h.bs.length o.op (opnd s.tmps)).run s.h.bs with
      | none =>
        rw [hm] at h
        rcases h with ⟨s', h, _⟩ | ⟨v, s', h, _⟩ <;> cases h
      | some r =>
        obtain ⟨v, wl⟩ := r
        rw [hm] at h
        rcases h with ⟨s', h, hn⟩ | ⟨v, s', h, _⟩
        · cases h
          have hnd : ∀ c, o.op ≠ .defer c := by
            intro c hc
            rw [hc] at hm
            exact fail_run hm
          rw [Oper.semAt_eq _ _ _ hnd]
          obtain ⟨u, w', K', h1, h2, h3⟩ := evOp_sound hS.hr (.inl rfl) hE.flat hρ hm
          rw [← app_bs] at h2 h3
          exact good_upon h1 (hn K' _ _ h2 (put_sr hS h2 (esc_app hS.esc h2.hr) h3 _))
        · cases h
theorem SR.skip {n0 : Nat} {K : KS} {s : ST} {a : Act} {w : World} (hS : SR n0 K s a w) (dst : Option Tmp) : SR n0 K { s with tmps := putT s.tmps dst (.tup []) } (a.put dst undef) w :=
  put_sr (h' := s.h) hS (Goes.refl hS.hr) hS.esc (.tup .nil) dst
/-- A region that keeps the text's order. -/
theorem ops_sound {E : Env} (hE : EnvOk E) {call : CallF} (hc : CallSound E.P call) {ro : Option Nat} {fid : FuncId} {ops : Array Oper} {n0 : Nat} {K0 : KS} {s0 : ST} {w0 : World} {x : AX} {s1 : ST} (hr0 : HR K0 s0.h.bs w0.heap) :
    ∀ (l : List Oper) (k : Nat) (s : ST) (K : KS) (a : Act) (w : World), (∀ i, l[i]? = ops[k + i]?) → evOps E call fid ops l s = some (x, s1) → Goes K0 s0.h.bs w0 K s.h.bs w → SR n0 K s a w →
      wpOpsIn (fence ro) 0 E.P ops (PostR n0 K0 s0 w0 x s1) (List.range' k l.length) a w
  | [], k, s, K, a, w, hl, hev, hg, hS => by
    simp only [evOps] at hev
    cases hev
    exact ⟨K, hg, hS, trivial⟩
  | o :: l, k, s, K, a, w, hl, hev, hg, hS => by
    have ho : ops[k]? = some o := by have := hl 0; simpa using this.symm
    have hl' : ∀ i, l[i]? = ops[k + 1 + i]? := fun i => by have := hl (i + 1); rw [List.getElem?_cons_succ] at this; rw [this]; congr 1; omega
    rw [List.length_cons, List.range'_succ]
    simp only [wpOpsIn, ho]
    simp only [evOps] at hev
    split at hev
    · rename_i hw
      rw [if_pos (wanted_sound hS.reg hw)]
      split at hev
      · rename_i s' hs
        exact oper_sound hE hc hS (.inl ⟨s', hs, fun K' a' w' hg' hS' => ops_sound hE hc hr0 l (k + 1) s' K' a' w' hl' hev (hg.trans hg') hS'⟩)
      · rename_i v s' hs
        cases hev
        exact oper_sound hE hc hS (.inr ⟨_, _, hs, fun K' a' w' chain hg' hS' hp => ⟨K', hg.trans hg', hS', hp⟩⟩)
      · cases hev
    · rename_i hw
      have hwf := wanted_sound hS.reg hw
      rw [hwf]
      exact ⟨fun _ _ => trivial, ops_sound hE hc hr0 l (k + 1) _ K _ w hl' hev hg (hS.skip o.dst)⟩
    · cases hev
end step
end Go.Proofs.Ytbebcbcnibfbhaa.Ab
