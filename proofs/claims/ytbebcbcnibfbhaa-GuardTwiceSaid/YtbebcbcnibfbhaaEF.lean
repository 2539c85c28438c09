import Derived.Test.YtbebcbcnibfbhaaEE
/- The engine, sixth text: the operations are sound (values, loads, stores, new blocks). -/
namespace Go.Proofs.Ytbebcbcnibfbhaa.Ab
open Go

section ty
variable {P : Program} {w : World} {t : TypeId}
theorem run_isAggA {b : Bool} (h : isAggA P t = some b) : (isAgg t).run P w = .ok b w := by
  unfold isAggA at h
  unfold isAgg underlying
  simp only [Sem.run_bind, run_program, Result.andThen_ok]
  cases hu : P.underlying t with
  | none => simp [hu] at h
  | some d =>
    simp only [hu] at h
    cases d <;> simp_all
theorem run_szOf {n : Nat} (h : szOf P t = some n) : (sizeOf t).run P w = .ok n w := by
  unfold szOf at h
  unfold sizeOf typeInfo
  cases hi : P.info? t with
  | none => simp [hi] at h
  | some i => simp [hi] at h; simp [hi, h]
theorem run_infoA {i : TypeInfo} (h : P.info? t = some i) : (typeInfo t).run P w = .ok i w := by
  unfold typeInfo
  simp [h]
theorem run_undA {d : TypeDesc} (h : P.underlying t = some d) : (underlying t).run P w = .ok d w := by
  unfold underlying
  simp [h]
theorem szOf_info {n : Nat} (h : szOf P t = some n) : ∃ i, P.info? t = some i ∧ i.size = n := by
  unfold szOf at h
  cases hi : P.info? t with
  | none => simp [hi] at h
  | some i => simp [hi] at h; exact ⟨i, rfl, h⟩
theorem bytesA_info {n : Nat} (h : bytesA P t = some n) : ∃ i, P.info? t = some i ∧ i.bytes = n := by
  unfold bytesA at h
  cases hi : P.info? t with
  | none => simp [hi] at h
  | some i => simp [hi] at h; exact ⟨i, rfl, h⟩
end ty

/-- A constant stands for itself. -/
theorem ofCell_rep (I : Nat → Prop) (hp : Array Obj) (v : Value) : RepP I hp (AV.ofCell v) v := by
  unfold AV.ofCell
  split
  · exact .bool _
  · exact .int _ _
  · exact .str _
  · exact .ptr0
  · exact .sl0
  · exact .map0
  · exact .fn0
  · exact .ifc0
  · exact .hole _
theorem ofCells_rep (I : Nat → Prop) (hp : Array Obj) (l : List Value) : RepPL I hp (l.map AV.ofCell) l := by
  induction l with
  | nil => exact .nil
  | cons v l ih => exact .cons (ofCell_rep I hp v) ih
theorem ofValue_rep (I : Nat → Prop) (hp : Array Obj) (v : Value) : RepP I hp (AV.ofValue v) v := by
  unfold AV.ofValue
  split
  · exact .agg (ofCells_rep I hp _)
  · exact ofCell_rep I hp v
theorem toCells_rep {K : KS} {bs : List AB} {hp : Array Obj} {a : AV} {v : Value} (h : RepV K bs hp a v) {c : List AV} (hc : a.toCells = some c) (ho : oneL c = true) : RepVL K bs hp c v.cells.toList := by
  unfold AV.toCells at hc
  split at hc
  · cases hc
    obtain ⟨vs, rfl, h1⟩ := h.inv_agg
    exact h1
  · cases hc
  · cases hc
  · rename_i h1 h2 h3
    cases hc
    have hone : v.oneCell' = true := by
      refine oneA_one h ?_
      simpa [oneL] using ho
    have hv : v.cells = #[v] := by cases v <;> first | rfl | (simp [Value.oneCell'] at hone)
    rw [hv]
    exact .cons h .nil
/-- What an operation hands on. -/
def outVal : Result Next → Option (Value × World)
  | .ok (.value v) w => some (v, w)
  | .ok .skip w => some (undef, w)
  | _ => none
def OpGood (K : KS) (bs : List AB) (w : World) (nid : Nat) (x : Out) (r : Result Next) : Prop :=
  ∃ v' w' K', outVal r = some (v', w') ∧ Goes K bs w K' (appBs bs nid x.2) w' ∧ RepV K' (appBs bs nid x.2) w'.heap x.1 v'
def ValGood (K : KS) (bs : List AB) (w : World) (nid : Nat) (x : Out) (r : Result Value) : Prop :=
  ∃ v' w' K', r = .ok v' w' ∧ Goes K bs w K' (appBs bs nid x.2) w' ∧ RepV K' (appBs bs nid x.2) w'.heap x.1 v'
theorem appBs_none (bs : List AB) (nid : Nat) : appBs bs nid .none = bs := rfl
/-- An operation that reads, at most. -/
theorem good_none {K : KS} {bs : List AB} {w : World} (hr : HR K bs w.heap) {nid : Nat} {a : AV} {v : Value} (h : RepV K bs w.heap a v) : ValGood K bs w nid (a, .none) (.ok v w) :=
  ⟨v, w, K, rfl, Goes.refl hr, h⟩
theorem pur_run {x : Option AV} {h : List AB} {r : Out} (hm : (pur x).run h = some r) : ∃ v, x = some v ∧ r = (v, .none) := by
  cases x with
  | none => simp [pur, AM.run] at hm
  | some v => simp [pur, AM.run] at hm; exact ⟨v, rfl, hm.symm⟩

section ops
variable {P : Program} {K : KS} {bs : List AB} {w : World}

theorem info_run {α : Type} {b : Nat} {k : BI → Nat → AM α} {r : α} (hm : (AM.info b k).run bs = some r) : ∃ c i, bs[b]? = some (.cells c i) ∧ (k i c.length).run bs = some r := by
  simp only [AM.run] at hm
  split at hm
  · rename_i c i hb
    exact ⟨c, i, hb, hm⟩
  · cases hm
theorem cells_run {α : Type} {b off n : Nat} {k : List AV → AM α} {r : α} (hm : (AM.cells b off n k).run bs = some r) : ∃ c i, bs[b]? = some (.cells c i) ∧ off + n ≤ c.length ∧ (k ((c.drop off).take n)).run bs = some r := by
  simp only [AM.run] at hm
  split at hm
  · rename_i c i hb
    split at hm
    · exact ⟨c, i, hb, ‹_›, hm⟩
    · cases hm
  · cases hm
theorem cell_run {α : Type} {b off : Nat} {k : AV → AM α} {r : α} (hm : (AM.cell b off k).run bs = some r) : ∃ c i v, bs[b]? = some (.cells c i) ∧ c[off]? = some v ∧ (k v).run bs = some r := by
  simp only [AM.run] at hm
  split at hm
  · rename_i c i hb
    split at hm
    · exact ⟨c, i, _, hb, ‹_›, hm⟩
    · cases hm
  · cases hm
theorem blk_run {α : Type} {b : Nat} {k : AB → AM α} {r : α} (hm : (AM.blk b k).run bs = some r) : ∃ x, bs[b]? = some x ∧ (k x).run bs = some r := by
  simp only [AM.run] at hm
  split at hm
  · exact ⟨_, ‹_›, hm⟩
  · cases hm
theorem ret_run {α : Type} {a r : α} (hm : (AM.ret a).run bs = some r) : r = a := by simp [AM.run] at hm; exact hm.symm
theorem fail_run {α : Type} {r : α} (hm : (AM.fail : AM α).run bs = some r) : False := by simp [AM.run] at hm

theorem load_sound (hr : HR K bs w.heap) {nid : Nat} {t : TypeId} {a : AV} {a' : Value} (ha : RepV K bs w.heap a a') {r : Out} (hm : (loadA P t a).run bs = some r) :
    ∃ v', (Instr.loadAt t a').run P w = .ok v' w ∧ RepV K bs w.heap r.1 v' ∧ r.2 = .none := by
  have _ := nid
  unfold loadA at hm
  split at hm
  · rename_i n hag hsz
    split at hm
    · rename_i b off ver
      obtain ⟨c, i, hb, hm⟩ := info_run hm
      split at hm
      · rename_i hv
        obtain ⟨c2, i2, hb2, hn, hm⟩ := cells_run hm
        rw [hb] at hb2; cases hb2
        have := ret_run hm
        subst this
        obtain ⟨x, rfl, _, e⟩ := ha.inv_ref
        obtain rfl := e c i hb hv
        obtain ⟨us, h1, h2, h3, _⟩ := read_cells hr hb hn
        have hrun := run_cells P w (K.β b) off us (fun j u hu => (h2 j u hu).1)
        rw [h1] at hrun
        refine ⟨.agg us.toArray, ?_, .agg h3, rfl⟩
        simp [Instr.loadAt, Instr.sureAddr, loadVar, run_isAggA hag, run_szOf hsz, hrun]
      · exact (fail_run hm).elim
    · rename_i cells off
      split at hm
      · rename_i hn
        have := ret_run hm
        subst this
        obtain ⟨b, o, us, rfl, h1, h2, h3⟩ := ha.inv_vref
        have hlen := h3.len
        have hrun := run_cells P w b (o + off) ((us.drop off).take n) (fun j u hu => by
          rw [List.getElem?_take] at hu
          split at hu
          · rw [List.getElem?_drop] at hu
            rw [Nat.add_assoc]
            exact (h2 _ _ hu).1
          · cases hu)
        rw [List.length_take, List.length_drop, Nat.min_eq_left (by omega)] at hrun
        refine ⟨.agg ((us.drop off).take n).toArray, ?_, .clean (.agg ((h3.drop _).take _)), rfl⟩
        simp only [Instr.loadAt, Instr.sureAddr, loadVar, Sem.run_bind, Sem.run_pure, Result.andThen_ok, run_isAggA hag, run_szOf hsz, if_true, hrun]
      · exact (fail_run hm).elim
    · exact (fail_run hm).elim
  · rename_i n hag hsz
    split at hm
    · rename_i b off ver
      obtain ⟨c, i, hb, hm⟩ := info_run hm
      split at hm
      · rename_i hv
        obtain ⟨c2, i2, v, hb2, hn, hm⟩ := cell_run hm
        rw [hb] at hb2; cases hb2
        have := ret_run hm
        subst this
        obtain ⟨x, rfl, _, e⟩ := ha.inv_ref
        obtain rfl := e c i hb hv
        obtain ⟨u, h1, h2, _⟩ := read_cell hr hb hn
        refine ⟨u, ?_, h2, rfl⟩
        simp [Instr.loadAt, Instr.sureAddr, loadVar, run_isAggA hag, cell_eq, h1]
      · exact (fail_run hm).elim
    · rename_i cells off
      obtain ⟨v, hv, rfl⟩ := pur_run hm
      obtain ⟨b, o, us, rfl, h1, h2, h3⟩ := ha.inv_vref
      obtain ⟨u, hu, hR⟩ := h3.get hv
      refine ⟨u, ?_, .clean hR, rfl⟩
      simp [Instr.loadAt, Instr.sureAddr, loadVar, run_isAggA hag, cell_eq, (h2 _ _ hu).1]
    · exact (fail_run hm).elim
  · exact (fail_run hm).elim

theorem store_sound (hr : HR K bs w.heap) {nid : Nat} {t : TypeId} {a v : AV} {a' v' : Value} (ha : RepV K bs w.heap a a') (hv : RepV K bs w.heap v v') {r : Out} (hm : (storeA P t a v).run bs = some r) :
    ∃ K' w', (Instr.storeAt t a' v').run P w = .ok () w' ∧ Goes K bs w K' (appBs bs nid r.2) w' ∧ r.1 = .tup [] := by
  unfold storeA at hm
  split at hm
  · rename_i b off ver vs n hvs hsz
    split at hm
    · rename_i h0
      obtain ⟨hlen, hone⟩ := h0
      obtain ⟨c, i, hb, hm⟩ := info_run hm
      split at hm
      · rename_i h1
        obtain ⟨hver, hw, hl, hcl⟩ := h1
        have := ret_run hm
        subst this
        obtain ⟨x, rfl, _, e⟩ := ha.inv_ref
        obtain rfl := e c i hb hver
        have hc := toCells_rep hv hvs hone
        obtain ⟨K', w', hrun, hg⟩ := goes_put (nid := nid) hr P hb hw (by rw [hlen]; exact hl) hc (oneL_one hc hone) (fun h => by
          rcases hcl with h' | h'
          · rw [h] at h'; cases h'
          · exact h')
        refine ⟨K', w', ?_, hg, rfl⟩
        have hsize : v'.cells.size = n := by rw [← hlen, hc.len]; simp
        simp [Instr.storeAt, Instr.sureAddr, storeVar, run_szOf hsz, hsize, hrun]
      · exact (fail_run hm).elim
    · exact (fail_run hm).elim
  · exact (fail_run hm).elim
end ops
end Go.Proofs.Ytbebcbcnibfbhaa.Ab
