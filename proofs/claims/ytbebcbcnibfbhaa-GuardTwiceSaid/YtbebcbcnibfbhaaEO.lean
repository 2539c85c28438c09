import Derived.Test.YtbebcbcnibfbhaaEN
/- The engine, fifteenth text: every operation is sound. -/
namespace Go.Proofs.Ytbebcbcnibfbhaa.Ab
open Go

section ops
variable {P : Program} {K : KS} {bs : List AB} {w : World}

theorem ValGood.op {nid : Nat} {x : Out} {s : Sem Value} (h : ValGood K bs w nid x (s.run P w)) : OpGood K bs w nid x ((do pure (Next.value (← s)) : Sem Next).run P w) := by
  obtain ⟨v, w', K', h1, h2, h3⟩ := h
  exact ⟨v, w', K', by simp [h1, outVal], h2, h3⟩
theorem valOf (hr : HR K bs w.heap) {nid : Nat} {a : Option AV} {r : Out} {x : Result Value} (hm : (pur a).run bs = some r) (h : ∀ b, a = some b → ∃ v, x = .ok v w ∧ RepV K bs w.heap b v) : ValGood K bs w nid r x := by
  obtain ⟨b, hb, rfl⟩ := pur_run hm
  obtain ⟨v, hx, hR⟩ := h b hb
  exact ⟨v, w, K, hx, Goes.refl hr, hR⟩
theorem skipOf {nid : Nat} {r : Out} {s : Sem Unit} (h : ∃ K' w', s.run P w = .ok () w' ∧ Goes K bs w K' (appBs bs nid r.2) w' ∧ r.1 = .tup []) : OpGood K bs w nid r ((do s; pure Next.skip : Sem Next).run P w) := by
  obtain ⟨K', w', h1, h2, h3⟩ := h
  refine ⟨undef, w', K', by simp [h1, outVal], h2, ?_⟩
  rw [h3]
  exact .tup .nil
theorem repO {hp : Array Obj} {ρ : Operand → AV} {ρ' : Operand → Value} (hρ : ∀ x, RepV K bs hp (ρ x) (ρ' x)) (o : Option Operand) : RepO K bs hp (o.map ρ) (o.map ρ') := by
  cases o with
  | none => trivial
  | some x => exact hρ x
theorem args2 {α β : Type} {l : Array α} {f : α → β} {a b : β} (h : l.toList.map f = [a, b]) : ∃ x y, l = #[x, y] ∧ f x = a ∧ f y = b := by
  obtain ⟨l⟩ := l
  cases l with
  | nil => simp at h
  | cons x l =>
    cases l with
    | nil => simp at h
    | cons y l =>
      cases l with
      | nil => simp at h; exact ⟨x, y, rfl, h.1, h.2⟩
      | cons z l => simp at h
theorem args1 {α β : Type} {l : Array α} {f : α → β} {a : β} (h : l.toList.map f = [a]) : ∃ x, l = #[x] ∧ f x = a := by
  obtain ⟨l⟩ := l
  cases l with
  | nil => simp at h
  | cons x l =>
    cases l with
    | nil => simp at h; exact ⟨x, rfl, h⟩
    | cons y l => simp at h
theorem argsn {α β : Type} {l : Array α} {f : α → β} {a : β} {r : List β} (h : l.toList.map f = a :: r) : ∃ x q, l.toList = x :: q ∧ f x = a ∧ q.map f = r := by
  obtain ⟨l⟩ := l
  cases l with
  | nil => simp at h
  | cons x l => simp at h; exact ⟨x, l, rfl, h.1, h.2⟩

theorem builtin_sound (hr : HR K bs w.heap) {nid : Nat} (hn : nid = bs.length ∨ bs[nid]? = some .void) {b : Builtin} {ts : Array TypeId} {ty : TypeId} {cs : Array Bool} {args : Array Operand} {ρ : Operand → AV} {ρ' : Operand → Value} (hρ : ∀ x, RepV K bs w.heap (ρ x) (ρ' x)) {r : Out}
    (hm : (builtinA P nid b ts.toList (args.toList.map ρ)).run bs = some r) : OpGood K bs w nid r ((builtin b ts ty cs (args.map ρ')).run P w) := by
  unfold builtinA at hm
  split at hm
  · rename_i b ts' args' t rest s x hts hargs
    obtain ⟨p, q, rfl, rfl, rfl⟩ := args2 hargs
    have h0 : ts[0]? = some t := by rw [← Array.getElem?_toList, hts]; rfl
    have h1 : rest.head? = ts[1]? := by rw [← Array.getElem?_toList, hts]; cases rest <;> rfl
    rw [show (#[p, q] : Array Operand).map ρ' = #[ρ' p, ρ' q] by simp]
    exact (append_sound hr hn h0 h1 (hρ p) (hρ q) hm).op
  · rename_i b ts' args' t rest d x hts hargs
    obtain ⟨p, q, rfl, rfl, rfl⟩ := args2 hargs
    have h0 : ts[0]? = some t := by rw [← Array.getElem?_toList, hts]; rfl
    rw [show (#[p, q] : Array Operand).map ρ' = #[ρ' p, ρ' q] by simp]
    exact (copy_sound hr h0 (hρ p) (hρ q) hm).op
  · rename_i b ts' args' t rest x hts hargs
    obtain ⟨p, rfl, rfl⟩ := args1 hargs
    have h0 : ts[0]? = some t := by rw [← Array.getElem?_toList, hts]; rfl
    rw [show (#[p] : Array Operand).map ρ' = #[ρ' p] by simp]
    exact (len_sound hr h0 (hρ p) hm).op
  · rename_i b ts' args' t rest x hts hargs
    obtain ⟨p, rfl, rfl⟩ := args1 hargs
    have h0 : ts[0]? = some t := by rw [← Array.getElem?_toList, hts]; rfl
    rw [show (#[p] : Array Operand).map ρ' = #[ρ' p] by simp]
    exact (cap_sound hr h0 (hρ p) hm).op
  · rename_i b ts' args' x rest hargs
    obtain ⟨p, q, hl, rfl, rfl⟩ := argsn hargs
    refine (valOf hr hm fun v hv => ?_ : ValGood K bs w nid r ((Builtin.min_ ts ty (args.map ρ')).run P w)).op
    obtain ⟨u, hu, hR⟩ := fold_sound (P := P) (w := w) (g := Builtin.min2) min2_sound (hρ p) (RepVL.map fun x _ => hρ x) hv
    refine ⟨u, ?_, hR⟩
    simp only [Builtin.min_, Array.toList_map, hl, List.map_cons]
    exact hu
  · rename_i b ts' args' x rest hargs
    obtain ⟨p, q, hl, rfl, rfl⟩ := argsn hargs
    refine (valOf hr hm fun v hv => ?_ : ValGood K bs w nid r ((Builtin.max_ ts ty (args.map ρ')).run P w)).op
    obtain ⟨u, hu, hR⟩ := fold_sound (P := P) (w := w) (g := Builtin.max2) max2_sound (hρ p) (RepVL.map fun x _ => hρ x) hv
    refine ⟨u, ?_, hR⟩
    simp only [Builtin.max_, Array.toList_map, hl, List.map_cons]
    exact hu
  · rename_i b ts' args' t rest m k hts hargs
    obtain ⟨p, q, rfl, rfl, rfl⟩ := args2 hargs
    have h0 : ts[0]? = some t := by rw [← Array.getElem?_toList, hts]; rfl
    rw [show (#[p, q] : Array Operand).map ρ' = #[ρ' p, ρ' q] by simp]
    exact (delete_sound hr h0 (hρ p) (hρ q) hm).op
  · exact (fail_run hm).elim

theorem evOp_sound (hr : HR K bs w.heap) {nid : Nat} (hn : nid = bs.length ∨ bs[nid]? = some .void) {flat : TypeId → Option (List Nat)} (hf : ∀ t ks, flat t = some ks → FlatTy P t ks) {o : Oper} {ρ : Operand → AV} {ρ' : Operand → Value} (hρ : ∀ x, RepV K bs w.heap (ρ x) (ρ' x)) {r : Out}
    (hm : (evOp P flat nid o.op ρ).run bs = some r) : OpGood K bs w nid r ((execOp ρ' o).run P w) := by
  obtain ⟨dst, op, type, pos, after, guard⟩ := o
  cases op with
  | move x =>
    have := ret_run hm; subst this
    exact ⟨_, w, K, rfl, Goes.refl hr, hρ x⟩
  | assign x =>
    have := ret_run hm; subst this
    exact ⟨_, w, K, rfl, Goes.refl hr, hρ x⟩
  | pick c a b =>
    simp only [evOp] at hm
    split at hm
    · rename_i t hc
      have := ret_run hm; subst this
      have hcc := hρ c
      rw [hc] at hcc
      have hcb := hcc.inv_bool
      refine ⟨if t then ρ' a else ρ' b, w, K, ?_, Goes.refl hr, pick_sound (hρ a) (hρ b)⟩
      simp only [execOp, hcb, asBool, Sem.run_bind, Sem.run_pure, Result.andThen_ok, outVal]
    · exact (fail_run hm).elim
  | alloc e =>
    simp only [evOp] at hm
    split at hm
    · rename_i z hz
      split at hm
      · rename_i ho
        have := ret_run hm; subst this
        exact (alloc_sound hr hn hz ho).op
      · exact (fail_run hm).elim
    · exact (fail_run hm).elim
  | box e x =>
    simp only [evOp] at hm
    split at hm
    · rename_i c hc
      split at hm
      · rename_i ho
        have := ret_run hm; subst this
        exact (box_sound hr hn (hρ x) hc ho).op
      · exact (fail_run hm).elim
    · exact (fail_run hm).elim
  | build t parts => exact (build_sound hr hρ hm).op
  | buildSlice t len parts => exact (buildSlice_sound hr hn hρ hm).op
  | load t a =>
    obtain ⟨v, h1, h2, h3⟩ := load_sound (P := P) hr (nid := nid) (hρ a) hm
    refine ValGood.op (s := Instr.loadAt t (ρ' a)) ⟨v, w, K, h1, ?_, ?_⟩
    · rw [h3]; exact Goes.refl hr
    · rw [h3]; exact h2
  | store t a v => exact skipOf (store_sound hr (hρ a) (hρ v) hm)
  | nilCheck x =>
    simp only [evOp] at hm
    have hx := hρ x
    split at hm
    · rename_i b o v e
      have := ret_run hm; subst this
      rw [e] at hx
      obtain ⟨y, hy, _⟩ := hx.inv_ref
      exact ⟨ρ' x, w, K, by simp only [execOp, hy]; rfl, Goes.refl hr, hx⟩
    · rename_i c o e
      have := ret_run hm; subst this
      rw [e] at hx
      obtain ⟨b, p, us, hy, _⟩ := hx.inv_vref
      exact ⟨ρ' x, w, K, by simp only [execOp, hy]; rfl, Goes.refl hr, hx⟩
    · rename_i f a b e
      have := ret_run hm; subst this
      rw [e] at hx
      obtain ⟨va, vb, hy, _⟩ := hx.inv_fn
      exact ⟨ρ' x, w, K, by simp only [execOp, hy]; rfl, Goes.refl hr, hx⟩
    · exact (fail_run hm).elim
  | binOp op t x y _ => exact (valOf hr hm fun b hb => bin_sound hf (hρ x) (hρ y) hb x y).op
  | unOp op _ x => exact (valOf hr hm fun b hb => un_sound (hρ x) hb).op
  | convert s d x => exact (convert_sound hr hn (hρ x) hm).op
  | sliceToArrayPointer t x =>
    simp only [evOp] at hm
    have hx := hρ x
    split at hm
    · rename_i n e cells m tight ht hc
      split at hm
      · rename_i hl
        have := ret_run hm; subst this
        rw [hc] at hx
        obtain ⟨b, p, sp, cap, us, hy, g1, g2, g3, g4, g5, g6⟩ := hx.inv_sl
        obtain rfl : sp = none := by
          rcases g6 with g6 | g6
          · exact g6
          · omega
        refine ValGood.op (s := Instr.arrayAt t (ρ' x)) ⟨.pointer (some ⟨b, p, none⟩), w, K, ?_, Goes.refl hr, ?_⟩
        · have : ¬ m < n := by omega
          simp [Instr.arrayAt, hy, run_undA ht, this]
        · exact .clean (.vref g3 g4 g5)
      · exact (fail_run hm).elim
    · rename_i n e b off m cap ver ht hc
      split at hm
      · rename_i hl
        have := ret_run hm; subst this
        rw [hc] at hx
        obtain ⟨y, p, cp, hy, g1, g2, g3, g4, g5⟩ := hx.inv_rsl
        have ho : p = off := by rcases g4 with h | h <;> omega
        refine ValGood.op (s := Instr.arrayAt t (ρ' x)) ⟨.pointer (some ⟨y, p, none⟩), w, K, ?_, Goes.refl hr, ?_⟩
        · have : ¬ m < n := by omega
          simp [Instr.arrayAt, hy, run_undA ht, this]
        · rw [ho]
          exact .ref g1 fun c i hc hv => (g5 c i hc hv).1
      · exact (fail_run hm).elim
    · exact (fail_run hm).elim
  | makeInterface t x =>
    simp only [evOp] at hm
    split at hm
    · exact (fail_run hm).elim
    · rename_i d hni hd
      have := ret_run hm; subst this
      refine ValGood.op (s := Instr.makeInterface t (ρ' x)) ⟨.iface t (ρ' x), w, K, ?_, Goes.refl hr, .ifc (hρ x)⟩
      simp only [Instr.makeInterface, Sem.run_bind, run_undA hd, Result.andThen_ok]
      cases d <;> first | rfl | exact absurd rfl (hni _)
    · exact (fail_run hm).elim
  | makeFunc fn a b =>
    cases fn with
    | func f =>
      have := ret_run hm; subst this
      refine ValGood.op (s := Instr.makeFunc (.func f) (a.map ρ') (b.map ρ')) ⟨_, w, K, rfl, Goes.refl hr, ?_⟩
      have := RepV.fn (f := f) (RepVL.map (K := K) (bs := bs) (hp := w.heap) (l := a.toList) fun x _ => hρ x) (RepVL.map (l := b.toList) fun x _ => hρ x)
      rw [show (a.toList.map ρ').toArray = a.map ρ' by rw [← Array.toList_map, Array.toArray_toList], show (b.toList.map ρ').toArray = b.map ρ' by rw [← Array.toList_map, Array.toArray_toList]] at this
      exact this
    | _ => exact (fail_run hm).elim
  | makeMap t h =>
    simp only [evOp] at hm
    split at hm
    · have := ret_run hm; subst this
      exact (makeMap_sound hr hn (.inl rfl)).op
    · rename_i x
      split at hm
      · rename_i kt et k n ht hx
        have := ret_run hm; subst this
        have hxx := hρ x
        rw [hx] at hxx
        exact (makeMap_sound hr hn (.inr ⟨kt, et, k, n, ht, by rw [Option.map_some, hxx.inv_int]⟩)).op
      · exact (fail_run hm).elim
  | makeSlice t l c => exact (makeSlice_sound hr hn (hρ l) (hρ c) hm).op
  | slice t x lo hi mx => exact (slice_sound hr (hρ x) (repO hρ lo) (repO hρ hi) (repO hρ mx) hm).op
  | fieldAddr s x f => exact (valOf hr hm fun b hb => fieldAddr_sound (hρ x) hb).op
  | field s x f => exact (valOf hr hm fun b hb => field_sound (hρ x) hb).op
  | indexAddr t x i => exact (valOf hr hm fun b hb => indexAddr_sound (hρ x) (hρ i) hb).op
  | index t x i => exact (valOf hr hm fun b hb => index_sound (hρ x) (hρ i) hb).op
  | lookup t m k ok => exact (lookup_sound hr (hρ m) (hρ k) hm).op
  | mapUpdate t m k v => exact skipOf (mapUpdate_sound hr (hρ m) (hρ k) (hρ v) hm)
  | insert t m k v => exact skipOf (mapUpdate_sound hr (hρ m) (hρ k) (hρ v) hm)
  | extract t i =>
    simp only [evOp] at hm
    split at hm
    · rename_i vs ht
      have htt := hρ t
      rw [ht] at htt
      obtain ⟨us, hu, hl⟩ := htt.inv_tup
      refine (valOf hr hm fun b hb => ?_ : ValGood K bs w nid r ((Instr.extract (ρ' t) i).run P w)).op
      obtain ⟨v, hv, hR⟩ := hl.get hb
      exact ⟨v, by simp [Instr.extract, hu, hv], hR⟩
    · exact (fail_run hm).elim
  | call c =>
    obtain ⟨callee, args, argTypes⟩ := c
    cases callee with
    | builtin b =>
      have := builtin_sound hr hn (ty := type) (cs := args.map fun | .const _ => true | _ => false) hρ hm
      exact this
    | _ => exact (fail_run hm).elim
  | _ => exact (fail_run hm).elim
end ops
end Go.Proofs.Ytbebcbcnibfbhaa.Ab
