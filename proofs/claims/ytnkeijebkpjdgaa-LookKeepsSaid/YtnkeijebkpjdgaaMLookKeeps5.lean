import Derived.Test.YtnkeijebkpjdgaaMLookKeeps4
set_option linter.unusedVariables false
set_option linter.unusedSimpArgs false
/- The engine, eleventh text: cells of slices; conversions; append, copy, make. -/
namespace Go.Proofs.Ytnkeijebkpjdgaa.Ab
open Go

section ops
variable {P : Program} {K : KS} {bs : List AB} {w : World}

theorem un_sound {hp : Array Obj} {op : UnOp} {a r : AV} {x : Value} (ha : RepV K bs hp a x) (h : unA op a = some r) : ∃ v, (Op.unary op x).run P w = .ok v w ∧ RepV K bs hp r v := by
  unfold unA at h
  split at h
  · have := ha.inv_int; subst this
    cases h
    exact ⟨_, by simp only [Op.unary, Op.intArith]; rfl, .clean (.int _ _)⟩
  · have := ha.inv_int; subst this
    cases h
    exact ⟨_, by simp only [Op.unary, Op.intBits]; rfl, .clean (.int _ _)⟩
  · have := ha.inv_bool; subst this
    cases h
    exact ⟨_, rfl, .clean (.bool _)⟩
  · cases h

theorem lenOf_sound {hp : Array Obj} {a : AV} {x : Value} {n : Nat} (ha : RepV K bs hp a x) (h : lenOfA a = some n) :
    (Builtin.lenOf x).run P w = .ok n w ∧ ((∃ p c, x = .slice p n c) ∨ ∃ s : ByteArray, x = .string s ∧ s.size = n) := by
  unfold lenOfA at h
  split at h <;> cases h
  · have := ha.inv_sl0; subst this; exact ⟨rfl, .inl ⟨_, _, rfl⟩⟩
  · obtain ⟨b, o, sp, cap, us, rfl, _⟩ := ha.inv_sl; exact ⟨rfl, .inl ⟨_, _, rfl⟩⟩
  · obtain ⟨x, o, cp, rfl, _⟩ := ha.inv_rsl; exact ⟨rfl, .inl ⟨_, _, rfl⟩⟩
  · obtain ⟨t, rfl, ht⟩ := ha.inv_str
    exact ⟨by simp [Builtin.lenOf, bytes_size ht], .inr ⟨t, rfl, bytes_size ht⟩⟩
theorem lenOf_slice {hp : Array Obj} {a : AV} {x : Value} {n : Nat} (ha : RepV K bs hp a x) (h : lenOfA a = some n) (hs : ∀ s, a ≠ .str s) : ∃ p c, x = .slice p n c := by
  unfold lenOfA at h
  split at h <;> cases h
  · have := ha.inv_sl0; subst this; exact ⟨_, _, rfl⟩
  · obtain ⟨b, o, sp, cap, us, rfl, _⟩ := ha.inv_sl; exact ⟨_, _, rfl⟩
  · obtain ⟨x, o, cp, rfl, _⟩ := ha.inv_rsl; exact ⟨_, _, rfl⟩
  · exact absurd rfl (hs _)
theorem byteCells_rep {hp : Array Obj} (l : List UInt8) : RepVL K bs hp (byteCells l) (l.map fun b => Value.int .u8 b.toNat) := RepVL.map fun _ _ => .clean (.int _ _)
theorem byteCells_one {l : List UInt8} : ∀ (j : Nat) (u : Value), (l.map fun b => Value.int .u8 b.toNat)[j]? = some u → u.oneCell' = true := by
  intro j u hu
  rw [List.getElem?_map] at hu
  cases h : l[j]? with
  | none => simp [h] at hu
  | some b => simp [h] at hu; subst hu; rfl
theorem byteCells_clean (l : List UInt8) : cleanL (byteCells l) = true := by
  rw [cleanL_mem]
  intro a ha
  obtain ⟨b, _, rfl⟩ := List.mem_map.1 ha
  rfl

/-- What the cells of a slice are, in the machine. -/
structure Cells (P : Program) (K : KS) (bs : List AB) (w : World) (size n : Nat) (x : Value) (c : List AV) (cl : Bool) (us : List Value) : Prop where
  run : ∀ w2 : World, w2.heap = w.heap → (Builtin.firstCells size n x).run P w2 = .ok us.toArray w2
  len : us.length = n * size
  rep : RepVL K bs w.heap c us
  one : ∀ (j : Nat) (u : Value), us[j]? = some u → u.oneCell' = true
  clean : cl = true → cleanL c = true
theorem sliceCells_sound (hr : HR K bs w.heap) {size n : Nat} {a : AV} {x : Value} (ha : RepV K bs w.heap a x) {k : List AV → Bool → AM Out} {r : Out} (hm : (sliceCells size n a k).run bs = some r) :
    ∃ c cl us, Cells P K bs w size n x c cl us ∧ (k c cl).run bs = some r := by
  unfold sliceCells at hm
  split at hm
  · have := ha.inv_sl0; subst this
    split at hm
    · rename_i h0
      subst h0
      exact ⟨[], true, [], ⟨fun w2 _ => by simp [Builtin.firstCells], by simp, .nil, fun j u hu => by simp at hu, fun _ => rfl⟩, hm⟩
    · exact (fail_run hm).elim
  · rename_i cells m tight
    obtain ⟨b, o, sp, cap, us, rfl, g1, g2, g3, g4, g5, g6⟩ := ha.inv_sl
    split at hm
    · rename_i hc
      have hus := g5.len
      have hcells : (if n = m ∧ cells.length = n * size then cells else cells.take (n * size)) = cells.take (n * size) := by
        split
        · rename_i h; rw [List.take_of_length_le (by omega)]
        · rfl
      rw [hcells] at hm
      have hlen : (us.take (n * size)).length = n * size := by rw [List.length_take]; omega
      refine ⟨_, true, us.take (n * size), ⟨fun w2 hw => ?_, hlen, .of_clean (g5.take _), fun j u hu => ?_, fun _ => (g5.take _).isClean⟩, hm⟩
      · rcases g6 with rfl | rfl
        · have := run_cells P w2 b o (us.take (n * size)) (fun j u hu => by
            rw [hw]
            rw [List.getElem?_take] at hu
            split at hu
            · exact (g4 _ _ hu).1
            · cases hu)
          rw [hlen] at this
          exact this
        · obtain rfl : n = 0 := by omega
          simp [Builtin.firstCells, loadCells, loadCellsFrom]
      · rw [List.getElem?_take] at hu
        split at hu
        · exact (g4 _ _ hu).2
        · cases hu
    · exact (fail_run hm).elim
  · rename_i b off m cap ver
    obtain ⟨y, o, cp, rfl, g1, g2, g3, g4, g5⟩ := ha.inv_rsl
    split at hm
    · rename_i hn
      obtain ⟨c, i, hb, hm⟩ := info_run hm
      split at hm
      · rename_i hv
        obtain ⟨c2, i2, hb2, hl, hm⟩ := cells_run hm
        rw [hb] at hb2; cases hb2
        obtain ⟨us, h1, h2, h3, h4⟩ := read_cells hr hb hl
        have hy := (g5 c i hb hv).1
        subst hy
        refine ⟨_, _, us, ⟨fun w2 hw => ?_, h1, h3, fun j u hu => (h2 j u hu).2, fun hcl => ?_⟩, hm⟩
        · rcases g4 with g4 | g4
          · have h9 : n = 0 := by omega
            have h0 : n * size = 0 := by rw [h9]; simp
            have hnil : us = [] := List.eq_nil_of_length_eq_zero (by omega)
            subst hnil
            simp [Builtin.firstCells, h0, loadCells, loadCellsFrom]
          · subst g4
            have := run_cells P w2 (K.β b) o us (fun j u hu => by rw [hw]; exact (h2 j u hu).1)
            rw [h1] at this
            exact this
        · simp only [Bool.or_eq_true] at hcl
          rcases hcl with h | h
          · exact h4 h
          · exact h
      · exact (fail_run hm).elim
    · exact (fail_run hm).elim
  · rename_i s
    obtain ⟨t, rfl, ht⟩ := ha.inv_str
    split at hm
    · rename_i hc
      obtain ⟨hn, rfl⟩ := hc
      have e : ((t.extract 0 n).data.map fun b => Value.int .u8 b.toNat) = ((s.take n).map fun b => Value.int .u8 b.toNat).toArray := by
        subst ht
        rw [ByteArray.data_extract]
        apply Array.ext'
        rw [Array.toList_map, Array.toList_extract]
        simp [List.extract]
      refine ⟨_, true, (s.take n).map fun b => Value.int .u8 b.toNat, ⟨fun w2 _ => ?_, ?_, byteCells_rep _, byteCells_one, fun _ => byteCells_clean _⟩, hm⟩
      · simp only [Builtin.firstCells, Sem.run_pure]
        rw [e]
      · rw [List.length_map, List.length_take]; omega
    · exact (fail_run hm).elim
  · exact (fail_run hm).elim
theorem toBytes_sound : ∀ {c : List AV} {us : List Value} {s : List UInt8} {hp : Array Obj}, RepVL K bs hp c us → toBytes c = some s → ∃ ns : List Int, us = ns.map (Value.int .u8) ∧ s = ns.map fun n => UInt8.ofNat n.toNat
  | [], us, s, hp, h, hs => by
    cases h
    simp [toBytes] at hs
    subst hs
    exact ⟨[], rfl, rfl⟩
  | a :: c, us, s, hp, h, hs => by
    cases h with
    | cons h0 h =>
      unfold toBytes at hs
      split at hs
      · rename_i e; cases e
      · rename_i n r e
        cases e
        cases ht : toBytes c with
        | none => simp [ht] at hs
        | some s' =>
          simp [ht] at hs
          obtain ⟨ns, h1, h2⟩ := toBytes_sound h ht
          have := h0.inv_int; subst this
          exact ⟨n :: ns, by simp [h1], by rw [← hs, h2]; rfl⟩
      · cases hs
theorem push_bytes : ∀ (ns : List Int) (r : ByteArray), (ns.foldl (fun r n => r.push (UInt8.ofNat n.toNat)) r).data.toList = r.data.toList ++ ns.map fun n => UInt8.ofNat n.toNat
  | [], r => by simp
  | n :: ns, r => by
    rw [List.foldl_cons, push_bytes ns]
    simp [ByteArray.push]
theorem convert_sound (hr : HR K bs w.heap) {nid : Nat} (hn : nid = bs.length ∨ bs[nid]? = some .void) {src dst : TypeId} {a : AV} {x : Value} (ha : RepV K bs w.heap a x) {r : Out} (hm : (convertA P nid src dst a).run bs = some r) :
    ValGood K bs w nid r ((convert src dst x).run P w) := by
  unfold convertA at hm
  split at hm
  · rename_i ds k k2 n hs hd
    have := ha.inv_int; subst this
    have := ret_run hm; subst this
    have hrun : (convert src dst (.int k2 n)).run P w = .ok (.int k (k.wrap n)) w := by
      simp [convert, run_undA hs, run_undA hd, Conv.intToInt]
    rw [hrun]
    exact good_none hr (.clean (.int _ _))
  · rename_i s hs hd
    obtain ⟨t, rfl, ht⟩ := ha.inv_str
    have := ret_run hm; subst this
    have hrun : (convert src dst (.string t)).run P w = .ok (.string t) w := by
      simp [convert, run_undA hs, run_undA hd]
    rw [hrun]
    exact good_none hr ha
  · rename_i ds e b off n cap ver hs hd
    split at hm
    · rename_i he
      split at hm
      · rename_i hsd
        subst hsd
        have hde := hs.symm.trans hd
        cases hde
        obtain ⟨c, i, hb, hm⟩ := info_run hm
        split at hm
        · rename_i hwv
          obtain ⟨hw, hv⟩ := hwv
          have := ret_run hm; subst this
          obtain ⟨y, o, cp, rfl, g1, g2, g3, g4, g5⟩ := ha.inv_rsl
          obtain rfl := (g5 c i hb hv).1
          obtain ⟨cc, el, lo, hi, us, q1, q2, q3, q4, q5, q6⟩ := hr.row hb
          obtain ⟨lo', hlo⟩ : ∃ x, x = if lo == hi then cc.size else min lo cc.size := ⟨_, rfl⟩
          obtain ⟨hi', hhi⟩ : ∃ x, x = if lo == hi then cc.size + 1 else max hi (cc.size + 1) := ⟨_, rfl⟩
          have hsh : w.shape? (K.β b) = some (el, cc.size) := by unfold World.shape?; rw [q1]
          have hrun : (convert src src (.slice (some ⟨K.β b, o, none⟩) n cp)).run P w = .ok (.slice (some ⟨K.β b, o, none⟩) n cp) (w.freeze ⟨K.β b, cc.size, none⟩ 1) := by
            simp only [convert, Sem.run_bind, run_undA hs, run_undA he, Result.andThen_ok, beq_self_eq_true]
            simp [markStringish, hsh]
          have hheap : (w.freeze ⟨K.β b, cc.size, none⟩ 1).heap[K.β b]? = some (.cells cc el (lo', hi')) ∧ ∀ d, d ≠ K.β b → (w.freeze ⟨K.β b, cc.size, none⟩ 1).heap[d]? = w.heap[d]? := by
            unfold World.freeze
            rw [if_neg (by decide)]
            refine ⟨?_, fun d hd => ?_⟩
            · rw [Array.getElem?_modify, if_pos rfl, q1, hlo, hhi]
              simp only [Option.map_some]
              congr 2
              split <;> rfl
            · rw [Array.getElem?_modify, if_neg (fun e => hd e.symm)]
          have hsize : (w.freeze ⟨K.β b, cc.size, none⟩ 1).heap.size = w.heap.size := by
            unfold World.freeze
            rw [if_neg (by decide)]
            simp
          have u : Upd K bs w.heap b (K.β b) (K.κ b) (.cells c i) (.cells cc el (lo', hi')) bs (w.freeze ⟨K.β b, cc.size, none⟩ 1).heap := by
            refine ⟨hb, fun _ _ => rfl, by rw [hsize]; exact Nat.le_refl _, hheap.1, fun d _ hd => hheap.2 d hd, .inr (.inr ⟨_, hb, hw, ⟨rfl, rfl, fun _ => rfl⟩, Nat.le_refl _, fun _ => ⟨rfl, rfl⟩⟩), .inr ⟨rfl, _, hb, hw⟩, rfl, hw,
              cc, el, lo', hi', us, rfl, ?_, q3, q4, q5, q6⟩
            unfold Unfr at q2 ⊢
            rw [hlo, hhi]
            by_cases hlh : lo = hi
            · right; simp [hlh]
            · right
              have : (lo == hi) = false := by simpa using hlh
              simp only [this]
              simp only [Bool.false_eq_true, if_false]
              omega
          rw [hrun]
          have hfz : ∀ w2 : World, w2 = w.freeze ⟨K.β b, cc.size, none⟩ 1 → w2.os = w.os ∧ w2.tape = w.tape ∧ w2.output = w.output := by
            intro w2 h
            subst h
            unfold World.freeze
            rw [if_neg (by decide)]
            exact ⟨rfl, rfl, rfl⟩
          obtain ⟨f1, f2, f3⟩ := hfz _ rfl
          exact ⟨_, _, _, rfl, ⟨u.tr hr, u.hr hr, f1, f2, f3⟩, ha.mono ((u.tr hr).lat hr)⟩
        · exact (fail_run hm).elim
      · exact (fail_run hm).elim
    · exact (fail_run hm).elim
  · rename_i ds e s hs hd
    obtain ⟨t, rfl, ht⟩ := ha.inv_str
    split at hm
    · rename_i he
      have := ret_run hm; subst this
      have hcapn : s.length ≤ grownCap w s.length 0 e := Nat.le_add_right _ _
      obtain ⟨cp, hcp⟩ : ∃ cp, grownCap w s.length 0 e = cp := ⟨_, rfl⟩
      rw [hcp] at hcapn
      have hrun : (convert src dst (.string t)).run P w = .ok (.slice (some ⟨w.heap.size, 0, none⟩) s.length cp) { w with heap := w.heap.push (.cells (bytesRow t cp) e ((bytesRow t cp).size, (bytesRow t cp).size + 1)), drawn := w.drawn + 1 } := by
        have hfr : ∀ (C : Array Value) (n : Nat), (w.drew.alloc (.cells C e)).freeze ⟨w.heap.size, n, none⟩ 1 = w.drew.alloc (.cells C e (n, n + 1)) := fun C n => by
          have hm : ∀ (a : Array Obj) (x : Obj) (f : Obj → Obj), (a.push x).modify a.size f = a.push (f x) := by
            intro a x f
            apply Array.ext
            · simp
            · intro i h1 h2
              simp only [Array.getElem_modify, Array.getElem_push]
              by_cases h : a.size = i
              · subst h
                simp
              · have hi : i < a.size := by simp at h1; omega
                simp [h, hi]
          unfold World.freeze
          rw [if_neg (by decide)]
          show ({ w.drew.alloc (.cells C e) with heap := (w.heap.push (.cells C e)).modify w.heap.size _ } : World) = _
          rw [hm]
          rfl
        have hsh : ∀ (C : Array Value), (w.drew.alloc (.cells C e)).shape? w.heap.size = some (e, C.size) := fun C => by
          have : (w.drew.alloc (.cells C e)).heap[w.heap.size]? = some (.cells C e) := by
            show (w.heap.push (.cells C e))[w.heap.size]? = _
            simp
          unfold World.shape?
          rw [this]
        have hst : (Conv.stringToBytes e t).run P w = .ok (.slice (some ⟨w.heap.size, 0, none⟩) t.size (grownCap w t.size 0 e)) (w.drew.alloc (.cells (bytesRow t (grownCap w t.size 0 e)) e ((bytesRow t (grownCap w t.size 0 e)).size, (bytesRow t (grownCap w t.size 0 e)).size + 1))) := by
          simp [Conv.stringToBytes, Question.forced, newRow, markStringish, hsh, grownCap, bytesRow]
          exact hfr _ _
        rw [bytes_size ht, hcp] at hst
        have hd2 : ∀ u : TypeDesc, (match u, TypeDesc.slice e, Value.string t with
            | _, .slice e, .string s => True
            | _, _, _ => True) := fun _ => trivial
        simp only [convert, Sem.run_bind, run_undA hs, run_undA hd, Result.andThen_ok]
        have : ∀ {β : Type} (f : TypeDesc → Sem β), ((underlying e) >>= f).run P w = (f (.int .u8)).run P w := by
          intro β f
          simp [run_undA he]
        cases ds <;> (simp only [run_undA he, Result.andThen_ok]; exact hst)
      rw [hrun]
      have hrow : (bytesRow t cp).toList = (s.map fun b => Value.int .u8 b.toNat) ++ List.replicate (cp - s.length) (.int .u8 0) := by
        unfold bytesRow
        rw [bytes_size ht]
        subst ht
        simp
      have hsz : (bytesRow t cp).size = cp := by
        rw [← Array.length_toList, hrow]
        simp
        omega
      refine good_row hr hn (k := cp) rfl ⟨bytesRow t cp, e, _, _, s.map fun b => Value.int .u8 b.toNat, rfl, .inr ⟨Nat.le_refl _, by omega⟩, hsz, fun j u hu => ⟨?_, byteCells_one j u hu⟩, byteCells_rep s, fun _ => byteCells_clean s⟩ (by simp [verA, byteCells]) hcapn (fun m hm => by cases hm) (fun _ => ?_) _ (w.drawn + 1) rfl
      · rw [← Array.getElem?_toList, hrow, List.getElem?_append_left]
        · exact hu
        · exact (List.getElem?_eq_some_iff.1 hu).1
      · simp [byteCells]
        exact hcapn
    · exact (fail_run hm).elim
  · rename_i e hs hd
    split at hm
    · rename_i he
      split at hm
      · exact (fail_run hm).elim
      · rename_i hns
        split at hm
        · rename_i n hl
          obtain ⟨c, cl, us, hc, hm⟩ := sliceCells_sound (P := P) hr ha hm
          split at hm
          · rename_i s hts
            have := ret_run hm; subst this
            obtain ⟨ns, h1, h2⟩ := toBytes_sound hc.rep hts
            obtain ⟨p, cp, rfl⟩ := lenOf_slice ha hl (fun s hs => hns s hs)
            have hlen := hc.len
            cases p with
            | none =>
              have h4 := hc.run w rfl
              simp only [Builtin.firstCells, Sem.run_pure, Result.ok.injEq, and_true] at h4
              have hnil : us = [] := by
                have := congrArg Array.toList h4
                simpa using this.symm
              subst hnil
              have hns : ns = [] := by
                cases ns with
                | nil => rfl
                | cons _ _ => cases h1
              subst hns
              have hrun : (convert src dst (.slice none n cp)).run P w = .ok (.string .empty) w := by
                simp [convert, run_undA hs, run_undA hd, run_undA he, Conv.bytesToString]
              rw [hrun]
              refine good_none hr (.clean ?_)
              rw [h2]
              exact .str ByteArray.empty
            | some q =>
              have h4 := hc.run w rfl
              simp only [Builtin.firstCells, Nat.mul_one, h1] at h4
              have hrun : (convert src dst (.slice (some q) n cp)).run P w = .ok (.string (ns.foldl (fun r n => r.push (UInt8.ofNat n.toNat)) ByteArray.empty)) w := by
                simp only [convert, Sem.run_bind, run_undA hs, run_undA hd, run_undA he, Result.andThen_ok]
                exact run_bytesToString w q n cp ns h4
              rw [hrun]
              refine good_none hr (.clean ?_)
              have := push_bytes ns ByteArray.empty
              rw [h2]
              have e2 : (ns.foldl (fun r n => r.push (UInt8.ofNat n.toNat)) ByteArray.empty).data.toList = ns.map fun n => UInt8.ofNat n.toNat := by rw [this]; rfl
              rw [← e2]
              exact .str _
          · exact (fail_run hm).elim
        · exact (fail_run hm).elim
    · exact (fail_run hm).elim
  · exact (fail_run hm).elim
end ops
end Go.Proofs.Ytnkeijebkpjdgaa.Ab
/- The engine, twelfth text: make, append. -/
namespace Go.Proofs.Ytnkeijebkpjdgaa.Ab
open Go

section ops
variable {P : Program} {K : KS} {bs : List AB} {w : World}

theorem wrap64_id {n : Int} (h0 : 0 ≤ n) (h1 : n ≤ 140737488355328) : IntKind.i64.wrap n = n := by
  unfold IntKind.wrap
  simp only [show ((2 : Int) ^ IntKind.i64.bits) = 18446744073709551616 from rfl, show ((2 : Int) ^ (IntKind.i64.bits - 1)) = 9223372036854775808 from rfl, show IntKind.i64.signed = true from rfl]
  rw [Int.emod_eq_of_lt h0 (by omega), if_neg (by simp; omega)]
theorem makeSlice_sound (hr : HR K bs w.heap) {nid : Nat} (hn : nid = bs.length ∨ bs[nid]? = some .void) {t : TypeId} {l c : AV} {l' c' : Value} (hl : RepV K bs w.heap l l') (hc : RepV K bs w.heap c c') {r : Out}
    (hm : (makeSliceA P nid t l c).run bs = some r) : ValGood K bs w nid r ((Instr.makeSlice t l' c').run P w) := by
  unfold makeSliceA at hm
  split at hm
  · rename_i e k1 l k2 c hu
    have := hl.inv_int; subst this
    have := hc.inv_int; subst this
    split at hm
    · rename_i sz by_ z hsz hby hz
      split at hm
      · rename_i hcond
        obtain ⟨h1, h2, h3, h4, h5, h6, h7⟩ := hcond
        have := ret_run hm; subst this
        obtain ⟨i, v, hi, hv, hrep⟩ := zero_info hz
        obtain ⟨i1, hi1, hs1⟩ := szOf_info hsz
        obtain ⟨i2, hi2, hb2⟩ := bytesA_info hby
        rw [hi] at hi1 hi2; cases hi1; cases hi2
        have hzr := hrep K bs w.heap
        have hvl : v.cells.toList.length = sz := by rw [← hzr.len, h5]
        have hrow := zeroRow_eq v.cells.toList c.toNat (by omega)
        rw [hvl] at hrow
        have hw1 := wrap64_id h1 (by omega : l ≤ 140737488355328)
        have hw2 := wrap64_id (by omega : 0 ≤ c) h3
        have hrow' : (Array.range (c.toNat * sz)).map (fun i => v.cells[i % v.cells.size]!) = (List.replicate c.toNat v.cells.toList).flatten.toArray := by simpa using hrow
        have hrun : (Instr.makeSlice t (.int k1 l) (.int k2 c)).run P w = .ok (.slice (some ⟨w.heap.size, 0, none⟩) l.toNat c.toNat) { w with heap := w.heap.push (.cells (List.replicate c.toNat v.cells.toList).flatten.toArray e) } := by
          have htl : (decide (c < 0) || decide (↑by_ * c > 281474976710656)) = false := by simp; omega
          have htl2 : decide (l < 0) = false := by simp; omega
          have htl3 : decide (l > c) = false := by simp; omega
          unfold Instr.makeSlice
          simp only [Sem.run_bind, run_undA hu, Result.andThen_ok, asInt, asIntOf, Sem.run_pure, run_infoA hi, hw1, hw2, hb2]
          simp only [show (2 : Int) ^ 48 = 281474976710656 by decide, htl, htl2, htl3, Bool.or_false, Bool.false_eq_true, if_false, Sem.run_bind, run_askRoom, Result.andThen_ok, run_szOf hsz]
          by_cases h0 : c.toNat * sz = 0
          · have hc0 : c.toNat = 0 := by
              rcases Nat.mul_eq_zero.1 h0 with h | h
              · exact h
              · omega
            simp only [h0, if_true]
            have har : ∀ f : Nat → Value, (Array.range 0).map f = #[] := fun f => Array.eq_empty_of_size_eq_zero (by simp)
            simp only [Sem.run_bind, Sem.run_pure, Result.andThen_ok, har]
            simp [newRow, hc0]
          · simp only [h0, if_false]
            simp only [Sem.run_bind, Sem.run_pure, Result.andThen_ok, run_zero hi hv, hrow']
            simp [newRow]
        rw [hrun]
        refine good_row hr hn (k := (List.replicate c.toNat v.cells.toList).flatten.length) rfl (obj_cells (repCells_rep c.toNat hzr) (oneL_one (repCells_rep c.toNat hzr) (oneL_rep _ h7)) e ⟨cleanL z && plainL z, sz, false, true⟩ (fun h => cleanL_rep _ (Bool.and_eq_true _ _ ▸ h).1)) rfl (by omega) (fun m hm => by cases hm; rfl) (fun h => by cases h) _ w.drawn rfl
      · exact (fail_run hm).elim
    · exact (fail_run hm).elim
  · exact (fail_run hm).elim

/-- What an append adds, in the machine. -/
structure News (P : Program) (K : KS) (bs : List AB) (w : World) (e sz : Nat) (ts : Array TypeId) (x : Value) (n : Nat) (c : List AV) (cl : Bool) (us : List Value) : Prop where
  kind : ((ts[1]? = none ∨ ∃ u d, ts[1]? = some u ∧ P.underlying u = some d ∧ ∀ k, d ≠ .int k) ∧ (Builtin.lenOf x).run P w = .ok n w ∧ ∀ w2 : World, w2.heap = w.heap → (Builtin.firstCells sz n x).run P w2 = .ok us.toArray w2) ∨
    (∃ (u : TypeId) (k0 k : IntKind) (l : Int) (v : Value), ts[1]? = some u ∧ P.underlying u = some (.int k0) ∧ x = .int k l ∧ 0 ≤ l ∧ l ≤ 140737488355328 ∧ n = l.toNat ∧ (∀ w2 : World, (zeroValue e).run P w2 = .ok v w2) ∧ v.cells.size = sz ∧ us = (List.replicate n v.cells.toList).flatten)
  len : us.length = n * sz
  rep : RepVL K bs w.heap c us
  one : ∀ (j : Nat) (u : Value), us[j]? = some u → u.oneCell' = true
  clean : cl = true → cleanL c = true
theorem newCells_sound (hr : HR K bs w.heap) {e sz : Nat} {ts : Array TypeId} {u : Option TypeId} (hu : u = ts[1]?) {a : AV} {x : Value} (ha : RepV K bs w.heap a x) {k : Nat → List AV → Bool → AM Out} {r : Out}
    (hm : (newCells P e sz u a k).run bs = some r) : ∃ n c cl us, News P K bs w e sz ts x n c cl us ∧ (k n c cl).run bs = some r := by
  unfold newCells at hm
  split at hm
  · split at hm
    · rename_i n hl
      obtain ⟨c, cl, us, hc, hm⟩ := sliceCells_sound (P := P) hr ha hm
      exact ⟨n, c, cl, us, ⟨.inl ⟨.inl hu.symm, (lenOf_sound ha hl).1, hc.run⟩, hc.len, hc.rep, hc.one, hc.clean⟩, hm⟩
    · exact (fail_run hm).elim
  · rename_i u'
    split at hm
    · exact (fail_run hm).elim
    · rename_i k0 hud
      split at hm
      · rename_i k1 l z hz
        have := ha.inv_int; subst this
        split at hm
        · rename_i hcond
          obtain ⟨h1, h2, h3, h4⟩ := hcond
          obtain ⟨i, v, hi, hv, hrep⟩ := zero_info hz
          have hzr := hrep K bs w.heap
          have hvl : v.cells.toList.length = sz := by rw [← hzr.len, h3]
          refine ⟨_, _, _, (List.replicate l.toNat v.cells.toList).flatten, ⟨.inr ⟨u', k0, k1, l, v, hu.symm, hud, rfl, h1, h2, rfl, fun w2 => run_zero hi hv, by simpa using hvl, rfl⟩, ?_, repCells_rep _ hzr, oneL_one (repCells_rep _ hzr) (oneL_rep _ h4), fun h => cleanL_rep _ h⟩, hm⟩
          rw [flatten_len, hvl]
        · exact (fail_run hm).elim
      · exact (fail_run hm).elim
    · rename_i d hnd hud
      split at hm
      · rename_i n hl
        obtain ⟨c, cl, us, hc, hm⟩ := sliceCells_sound (P := P) hr ha hm
        exact ⟨n, c, cl, us, ⟨.inl ⟨.inr ⟨u', d, hu.symm, hud, fun k hk => hnd k (by rw [← hk])⟩, (lenOf_sound ha hl).1, hc.run⟩, hc.len, hc.rep, hc.one, hc.clean⟩, hm⟩
      · exact (fail_run hm).elim

theorem zero_cells {v : Value} {n sz : Nat} (hv : v.cells.size = sz) (hsz : 0 < sz) : Builtin.zeroCells v.cells n = (List.replicate n v.cells.toList).flatten.toArray := by
  unfold Builtin.zeroCells
  have := zeroRow_eq v.cells.toList n (by simpa [hv] using hsz)
  simpa using this
/-- An append with room. -/
theorem run_append_fits {t ty e sz by_ : Nat} {ts : Array TypeId} {i : TypeInfo} (ht : P.underlying t = some (.slice e)) (hts : ts[0]? = some t) (hi : P.info? e = some i) (hsz : i.size = sz) (hpos : 0 < sz) (hby : i.bytes = by_)
    {base : Option Addr} {m cp n : Nat} {x : Value} {c : List AV} {cl : Bool} {us : List Value} (hN : News P K bs w e sz ts x n c cl us) (hfit : m + n ≤ cp) (hbytes : (m + n) * by_ ≤ 140737488355328)
    {w' : World} (hst : ∀ a, base = some a → (storeCells (a.add (m * sz)) us).run P w = .ok () w') (hno : base = none → w' = w) :
    (Builtin.append_ ts ty #[.slice base m cp, x]).run P w = .ok (.slice base (m + n) cp) w' := by
  obtain ⟨hk, hlen, _⟩ := hN
  have hso : (sizeOf e).run P w = .ok sz w := by simp [sizeOf, typeInfo, hi, hsz]
  have hfin : ∀ (f : Sem (Array Value)), f.run P w = .ok us.toArray w → (do
      let new ← f
      match base with
      | some a => do
        storeCells (a.add (m * sz)) new.toList
        pure (.slice base (m + n) cp)
      | _ => pure (.slice base (m + n) cp) : Sem Value).run P w = .ok (.slice base (m + n) cp) w' := by
    intro f hf
    cases base with
    | none =>
      have := hno rfl
      subst this
      simp [hf]
    | some a =>
      have := hst a rfl
      simp [hf, this]
  rcases hk with ⟨hu, hl, hf⟩ | ⟨u, k0, k, l, v, hu, hud, rfl, h0, h1, rfl, hz, hvs, rfl⟩
  · have hf' := hf w rfl
    rcases hu with hu | ⟨u, d, hu, hud, hd⟩
    · unfold Builtin.append_
      simp only [hts, hu, Sem.run_bind, run_undA ht, Result.andThen_ok, hso, Bool.false_eq_true, if_false, hl, Sem.run_pure, List.getElem?_toArray, List.getElem?_cons_zero, List.getElem?_cons_succ, if_pos hfit, Bool.not_false, if_true]
      have h9 := hfin _ hf'
      rw [Sem.run_bind] at h9
      exact h9
    · unfold Builtin.append_
      simp only [hts, hu, run_undA hud, Sem.run_bind, run_undA ht, Result.andThen_ok, hso, Bool.false_eq_true, if_false, hl, Sem.run_pure, List.getElem?_toArray, List.getElem?_cons_zero, List.getElem?_cons_succ, if_pos hfit, Bool.not_false, if_true]
      have h9 := hfin _ hf'
      rw [Sem.run_bind] at h9
      exact h9
  · have hwr := wrap64_id h0 h1
    have hneg : ¬ l < 0 := by omega
    have hbig : ¬ l * (i.bytes : Int) > 2 ^ 48 := by
      have h2 : l.toNat * by_ ≤ (m + l.toNat) * by_ := Nat.mul_le_mul_right _ (by omega)
      have h3 : ((l.toNat * by_ : Nat) : Int) ≤ ((140737488355328 : Nat) : Int) := Int.ofNat_le.2 (by omega)
      rw [Int.natCast_mul, Int.toNat_of_nonneg h0] at h3
      rw [hby]
      have : (2 : Int) ^ 48 = 281474976710656 := by decide
      omega
    have happ : (if l.toNat * sz = 0 then pure #[] else do pure (Builtin.zeroCells (← zeroValue e).cells l.toNat) : Sem (Array Value)).run P w = .ok (List.replicate l.toNat v.cells.toList).flatten.toArray w := by
      by_cases h9 : l.toNat * sz = 0
      · have hn0 : l.toNat = 0 := by
          rcases Nat.mul_eq_zero.1 h9 with h | h
          · exact h
          · omega
        rw [if_pos h9, hn0]
        simp
      · rw [if_neg h9]
        simp [hz, zero_cells hvs hpos]
    unfold Builtin.append_
    simp only [hts, hu, run_undA hud, asInt, asIntOf, hwr, hneg, hbig, run_infoA hi, Sem.run_bind, run_undA ht, Result.andThen_ok, hso, Bool.false_eq_true, if_false, Sem.run_pure, List.getElem?_toArray, List.getElem?_cons_zero, List.getElem?_cons_succ, if_pos hfit, Bool.not_true, if_true]
    have h9 := hfin _ happ
    rw [Sem.run_bind] at h9
    exact h9
/-- An append without. -/
theorem run_append_grows {t ty e sz by_ : Nat} {ts : Array TypeId} {i : TypeInfo} (ht : P.underlying t = some (.slice e)) (hts : ts[0]? = some t) (hi : P.info? e = some i) (hsz : i.size = sz) (hpos : 0 < sz) (hby : i.bytes = by_)
    {base : Option Addr} {m cp n : Nat} {x z : Value} {c : List AV} {cl : Bool} {us old : List Value} (hz : i.zero = some z) (hN : News P K bs w e sz ts x n c cl us) (hfit : ¬ m + n ≤ cp) (hsmall : m + n ≤ 140737488355328) (hbytes : (m + n) * by_ ≤ 140737488355328)
    (hold : ∀ w2 : World, w2.heap = w.heap → (Builtin.firstCells sz m (.slice base m cp)).run P w2 = .ok old.toArray w2) :
    ∃ cap2 rest, m + n ≤ cap2 ∧ rest = Builtin.zeroCells z.cells (cap2 - (m + n)) ∧ (Builtin.append_ ts ty #[.slice base m cp, x]).run P w =
      .ok (.slice (some ⟨w.heap.size, 0, none⟩) (m + n) cap2) { w with heap := w.heap.push (.cells (old.toArray ++ us.toArray ++ rest) e), drawn := w.drawn + 1 } := by
  obtain ⟨hk, hlen, _⟩ := hN
  have hso : (sizeOf e).run P w = .ok sz w := by simp [sizeOf, typeInfo, hi, hsz]
  have hle : m + n ≤ grownCap w (m + n) cp e := Nat.le_add_right _ _
  refine ⟨grownCap w (m + n) cp e, _, hle, rfl, ?_⟩
  have hgrow := growslice_fits (show cp < m + n by omega) (by rw [hby]; exact hbytes : (m + n) * i.bytes ≤ 140737488355328)
  have hng : ¬ Builtin.nextslicecap (m + n) cp * i.bytes > 2 ^ 48 := by
    have : (2 : Nat) ^ 48 = 281474976710656 := by decide
    omega
  have hmax : ¬ ((m + n : Nat) : Int) > IntKind.i64.max := by
    have h3 : ((m + n : Nat) : Int) ≤ ((140737488355328 : Nat) : Int) := Int.ofNat_le.2 hsmall
    have : IntKind.i64.max = 9223372036854775807 := by decide
    omega
  have hzero : ∀ w2 : World, (zeroValue e).run P w2 = .ok z w2 := fun w2 => run_zero hi hz
  have hfin : ∀ (f : Sem (Array Value)), (∀ w2 : World, w2.heap = w.heap → f.run P w2 = .ok us.toArray w2) → (do
      let newCap ← choose (.appendCap (m + n) cp e)
      askRoom (newCap * i.bytes)
      let old ← Builtin.firstCells sz m (.slice base m cp)
      let new ← f
      let rest := Builtin.zeroCells (← zeroValue e).cells (newCap - (m + n))
      pure (.slice (some (← newRow e (old ++ new ++ rest))) (m + n) newCap) : Sem Value).run P w = .ok (.slice (some ⟨w.heap.size, 0, none⟩) (m + n) (grownCap w (m + n) cp e))
        { w with heap := w.heap.push (.cells (old.toArray ++ us.toArray ++ Builtin.zeroCells z.cells (grownCap w (m + n) cp e - (m + n))) e), drawn := w.drawn + 1 } := by
    intro f hf
    have h1 := hold w.drew rfl
    have h2 := hf w.drew rfl
    simp [Question.forced, h1, h2, hzero, newRow, grownCap]
    simp only [World.alloc, World.drew]
    congr 3
    rw [← Array.append_assoc]
    congr 1
    simp
  rcases hk with ⟨hu, hl, hf⟩ | ⟨u, k0, k, l, v, hu, hud, rfl, h0, h1, rfl, hzv, hvs, rfl⟩
  · rcases hu with hu | ⟨u, d, hu, hud, hd⟩
    · unfold Builtin.append_
      simp only [hts, hu, Sem.run_bind, run_undA ht, Result.andThen_ok, hso, Bool.false_eq_true, if_false, hl, Sem.run_pure, List.getElem?_toArray, List.getElem?_cons_zero, List.getElem?_cons_succ, if_neg hfit, Bool.not_false, if_true, hmax, false_and, run_infoA hi, hng]
      have h9 := hfin _ hf
      simp only [Sem.run_bind] at h9
      exact h9
    · unfold Builtin.append_
      simp only [hts, hu, run_undA hud, Sem.run_bind, run_undA ht, Result.andThen_ok, hso, Bool.false_eq_true, if_false, hl, Sem.run_pure, List.getElem?_toArray, List.getElem?_cons_zero, List.getElem?_cons_succ, if_neg hfit, Bool.not_false, if_true, hmax, false_and, run_infoA hi, hng]
      have h9 := hfin _ hf
      simp only [Sem.run_bind] at h9
      exact h9
  · have hwr := wrap64_id h0 h1
    have hneg : ¬ l < 0 := by omega
    have hbig : ¬ l * (i.bytes : Int) > 2 ^ 48 := by
      have h2 : l.toNat * by_ ≤ (m + l.toNat) * by_ := Nat.mul_le_mul_right _ (by omega)
      have h3 : ((l.toNat * by_ : Nat) : Int) ≤ ((140737488355328 : Nat) : Int) := Int.ofNat_le.2 (by omega)
      rw [Int.natCast_mul, Int.toNat_of_nonneg h0] at h3
      rw [hby]
      have : (2 : Int) ^ 48 = 281474976710656 := by decide
      omega
    have happ : ∀ w2 : World, w2.heap = w.heap → (if l.toNat * sz = 0 then pure #[] else do pure (Builtin.zeroCells (← zeroValue e).cells l.toNat) : Sem (Array Value)).run P w2 = .ok (List.replicate l.toNat v.cells.toList).flatten.toArray w2 := by
      intro w2 _
      by_cases h9 : l.toNat * sz = 0
      · have hn0 : l.toNat = 0 := by
          rcases Nat.mul_eq_zero.1 h9 with h | h
          · exact h
          · omega
        rw [if_pos h9, hn0]
        simp
      · rw [if_neg h9]
        simp [hzv, zero_cells hvs hpos]
    unfold Builtin.append_
    simp only [hts, hu, run_undA hud, asInt, asIntOf, hwr, hneg, hbig, run_infoA hi, Sem.run_bind, run_undA ht, Result.andThen_ok, hso, Bool.false_eq_true, if_false, Sem.run_pure, List.getElem?_toArray, List.getElem?_cons_zero, List.getElem?_cons_succ, if_neg hfit, Bool.not_true, if_true, hmax, false_and, hng]
    have h9 := hfin _ happ
    simp only [Sem.run_bind] at h9
    exact h9
end ops
end Go.Proofs.Ytnkeijebkpjdgaa.Ab
/- The engine, thirteenth text: append, copy. -/
namespace Go.Proofs.Ytnkeijebkpjdgaa.Ab
open Go

section ops
variable {P : Program} {K : KS} {bs : List AB} {w : World}

theorem zeroCells_len {v : Value} {n sz : Nat} (hv : v.cells.size = sz) (hsz : 0 < sz) : (Builtin.zeroCells v.cells n).size = n * sz := by
  rw [zero_cells hv hsz, List.size_toArray, flatten_len, Array.length_toList, hv]
/-- The row that a growing append lays. -/
theorem grown_row {old us : List Value} {c new : List AV} {rest : Array Value} (ho : RepVL K bs w.heap c old) (hn : RepVL K bs w.heap new us) (h1 : ∀ (j : Nat) (u : Value), old[j]? = some u → u.oneCell' = true) (h2 : ∀ (j : Nat) (u : Value), us[j]? = some u → u.oneCell' = true)
    (e : TypeId) (i : BI) (hc : i.cl = true → cleanL (c ++ new) = true) {k : Nat} (hk : k = old.length + us.length + rest.size) :
    ObjR K bs w.heap k (.cells (c ++ new) i) (.cells (old.toArray ++ us.toArray ++ rest) e (0, 0)) := by
  refine ⟨_, e, 0, 0, old ++ us, rfl, .inl rfl, by simp [hk], fun j u hu => ?_, ho.app hn, hc⟩
  constructor
  · have hlt := (List.getElem?_eq_some_iff.1 hu).1
    rw [Array.getElem?_append_left (by simpa using hlt)]
    rw [List.append_toArray, List.getElem?_toArray]
    exact hu
  · rw [List.getElem?_append] at hu
    split at hu
    · exact h1 _ _ hu
    · exact h2 _ _ hu
theorem le_mul_cap {m n cp sz : Nat} (h : m + n ≤ cp) : (m + n) * sz ≤ cp * sz := Nat.mul_le_mul_right _ h
theorem cleanL_app_of {c new : List AV} (h1 : cleanL c = true) (h2 : cleanL new = true) : cleanL (c ++ new) = true := by rw [cleanL_app, h1, h2]; rfl

theorem append_sound (hr : HR K bs w.heap) {nid : Nat} (hn : nid = bs.length ∨ bs[nid]? = some .void) {t ty : TypeId} {ts : Array TypeId} {u : Option TypeId} (hts : ts[0]? = some t) (hu : u = ts[1]?) {s x : AV} {s' x' : Value} (hs : RepV K bs w.heap s s') (hx : RepV K bs w.heap x x') {r : Out}
    (hm : (appendA P nid t u s x).run bs = some r) : ValGood K bs w nid r ((Builtin.append_ ts ty #[s', x']).run P w) := by
  unfold appendA at hm
  split at hm
  · rename_i e ht
    split at hm
    · rename_i sz by_ zc hsz hby hzc
      have hm' := newCells_sound hr hu hx hm
      clear hm
      obtain ⟨n, new, ncl, us, hN, hm⟩ := hm'
      obtain ⟨i, z, hi, hz, hrep⟩ := zero_info hzc
      obtain ⟨i1, hi1, hs1⟩ := szOf_info hsz
      obtain ⟨i2, hi2, hb2⟩ := bytesA_info hby
      rw [hi] at hi1 hi2; cases hi1; cases hi2
      split at hm
      · rename_i hcond
        obtain ⟨hsm, hbt, hpos, hzl⟩ := hcond
        have hzs : z.cells.size = sz := by
          have := (hrep K bs w.heap).len
          rw [hzl] at this
          simpa using this.symm
        have hNrep := hN.rep
        have hNlen := hN.len
        have hnewl : new.length = n * sz := by rw [hNrep.len, hNlen]
        split at hm
        · -- nil
          have := hs.inv_sl0; subst this
          split at hm
          · rename_i h0
            subst h0
            have := ret_run hm; subst this
            rw [run_append_fits ht hts hi hs1 hpos hb2 hN (Nat.le_refl 0) (by omega) (w' := w) (fun a ha => by cases ha) (fun _ => rfl)]
            exact good_none hr (.clean .sl0)
          · rename_i h0
            have := ret_run hm; subst this
            simp only [lenOfA, Option.getD_some] at hsm hbt
            obtain ⟨cap2, rest, g1, g2, g3⟩ := run_append_grows ht hts hi hs1 hpos hb2 (base := none) (m := 0) (cp := 0) (old := []) (x := x') hz hN (by omega) (by omega) (by omega) (fun w2 _ => by simp [Builtin.firstCells])
            rw [g3]
            have hrl : rest.size = (cap2 - (0 + n)) * sz := by rw [g2]; exact zeroCells_len hzs hpos
            have hrow := grown_row (K := K) (bs := bs) (w := w) (c := []) (old := []) (us := us) (new := new) (rest := rest) .nil hNrep (fun j u hu => by simp at hu) hN.one e ⟨ncl && plainL zc, sz, true, true⟩ (fun h => by simpa using hN.clean (by simp only [Bool.and_eq_true] at h; exact h.1)) rfl
            have := good_row (cap := none) (n := n) (cp := cap2) (ver := new.length + 1) hr hn (i := ⟨ncl && plainL zc, sz, true, true⟩) (c := new) (k := ([] : List Value).length + us.length + rest.size) rfl hrow (by simp [verA]) (by omega) (fun m hm => by cases hm) (fun _ => by
              simp only [List.length_nil]
              rw [hNlen, hrl, hnewl]
              have : (cap2 - (0 + n)) * sz + n * sz = cap2 * sz := by rw [← Nat.add_mul]; congr 1; omega
              have := le_mul_cap (sz := sz) g1
              simp only [Nat.zero_add] at *
              omega) _ (w.drawn + 1) rfl
            simpa using this
        · -- a value
          rename_i cells m tight
          obtain ⟨b, o, sp, cap, vs, rfl, q1, q2, q3, q4, q5, q6⟩ := hs.inv_sl
          simp only [lenOfA, Option.getD_some] at hsm hbt
          split at hm
          · rename_i h0
            subst h0
            have := ret_run hm; subst this
            have hus : us = [] := List.eq_nil_of_length_eq_zero (by rw [hNlen]; simp)
            rw [run_append_fits ht hts hi hs1 hpos hb2 hN (by omega : m + 0 ≤ cap) (by omega) (w' := w) (fun a ha => by rw [hus]; rfl) (fun h => by cases h)]
            exact good_none hr hs
          · rename_i h0
            split at hm
            · rename_i htl
              obtain ⟨ht1, hcl⟩ := htl
              have := ret_run hm; subst this
              have hcapm := q2 ht1
              subst hcapm
              have hvl : vs.length = cap * sz := by rw [← q5.len, hcl]
              obtain ⟨cap2, rest, g1, g2, g3⟩ := run_append_grows ht hts hi hs1 hpos hb2 (base := some ⟨b, o, sp⟩) (m := cap) (cp := cap) (old := vs) (x := x') hz hN (by omega) hsm hbt (fun w2 hw => by
                rcases q6 with rfl | rfl
                · have := run_cells P w2 b o vs (fun j u hu => by rw [hw]; exact (q4 j u hu).1)
                  rw [hvl] at this
                  exact this
                · have hvn : vs = [] := List.eq_nil_of_length_eq_zero (by omega)
                  subst hvn
                  simp [Builtin.firstCells, loadCells, loadCellsFrom])
              rw [g3]
              have hrl : rest.size = (cap2 - (cap + n)) * sz := by rw [g2]; exact zeroCells_len hzs hpos
              have hrow := grown_row (K := K) (bs := bs) (w := w) (c := cells) (old := vs) (us := us) (new := new) (rest := rest) (.of_clean q5) hNrep (fun j u hu => (q4 j u hu).2) hN.one e ⟨ncl && plainL zc, sz, true, true⟩ (fun h => cleanL_app_of q5.isClean (hN.clean (by simp only [Bool.and_eq_true] at h; exact h.1))) rfl
              exact good_row (cap := none) (n := cap + n) (cp := cap2) (ver := (cells ++ new).length + 1) hr hn (i := ⟨ncl && plainL zc, sz, true, true⟩) (c := cells ++ new) rfl hrow (by simp [verA]) g1 (fun m hm => by cases hm) (fun _ => by
                simp only [List.length_append]
                rw [hNlen, hrl, hnewl, hvl, hcl]
                have h8 : (cap2 - (cap + n)) * sz + (cap * sz + n * sz) = cap2 * sz := by rw [← Nat.add_mul, ← Nat.add_mul]; congr 1; omega
                have h9 := le_mul_cap (sz := sz) g1
                rw [Nat.add_mul] at h9
                omega) _ (w.drawn + 1) rfl
            · exact (fail_run hm).elim
        · -- a row of a block of known capacity
          rename_i b off m cap ver
          obtain ⟨y, o, cp, rfl, q1, q2, q3, q4, q5⟩ := hs.inv_rsl
          simp only [lenOfA, Option.getD_some] at hsm hbt
          have hcp := q3 cap rfl
          subst hcp
          obtain ⟨c, i0, hb, hm⟩ := info_run hm
          split at hm
          · rename_i hv
            obtain rfl := (q5 c i0 hb hv).1
            split at hm
            · rename_i hfit
              split at hm
              · rename_i hcd
                obtain ⟨hw, hl, hcl⟩ := hcd
                have := ret_run hm; subst this
                have hmul : (m + n) * sz = m * sz + n * sz := Nat.add_mul _ _ _
                obtain ⟨K', w', hrun, hg⟩ := goes_put (nid := nid) (off := off + m * sz) (vs := new) hr P hb hw (by rw [hnewl]; omega) hNrep hN.one (fun h => by
                  rcases hcl with h' | h'
                  · rw [h] at h'; cases h'
                  · exact hN.clean h')
                have hst : ∀ a, some (⟨K.β b, o, none⟩ : Addr) = some a → (storeCells (a.add (m * sz)) us).run P w = .ok () w' := by
                  intro a ha
                  cases ha
                  rw [add_addr]
                  rcases q4 with q4 | q4
                  · have hm0 : m = 0 := by omega
                    have hn0 : n = 0 := by omega
                    subst hm0 hn0
                    have hus : us = [] := List.eq_nil_of_length_eq_zero (by rw [hNlen]; simp)
                    rw [hus] at hrun ⊢
                    exact hrun
                  · rw [q4]; exact hrun
                rw [run_append_fits ht hts hi hs1 hpos hb2 hN hfit hbt hst (fun h => by cases h)]
                refine ⟨_, w', K', rfl, hg, ?_⟩
                have hL := hg.lat hr
                have hs2 : RepV K bs w.heap (.rsl b off (m + n) (some cp) ver) (.slice (some ⟨K.β b, o, none⟩) (m + n) cp) := .rsl q1 hfit q3 q4 fun c i hc hv => ⟨(q5 c i hc hv).1, fun e => by cases e⟩
                exact hs2.mono hL
              · exact (fail_run hm).elim
            · rename_i hfit
              obtain ⟨c2, i2, hb2', hl, hm⟩ := cells_run hm
              rw [hb] at hb2'; cases hb2'
              have := ret_run hm; subst this
              obtain ⟨vs, k1, k2, k3, k4⟩ := read_cells hr hb hl
              have hold : ∀ w2 : World, w2.heap = w.heap → (Builtin.firstCells sz m (.slice (some ⟨K.β b, o, none⟩) m cp)).run P w2 = .ok vs.toArray w2 := by
                intro w2 hw
                rcases q4 with q4 | q4
                · have hm0 : m = 0 := by omega
                  subst hm0
                  have hvs : vs = [] := List.eq_nil_of_length_eq_zero (by omega)
                  subst hvs
                  simp [Builtin.firstCells, loadCells, loadCellsFrom]
                · subst q4
                  have := run_cells P w2 (K.β b) o vs (fun j u hu => by rw [hw]; exact (k2 j u hu).1)
                  rw [k1] at this
                  exact this
              obtain ⟨cap2, rest, g1, g2, g3⟩ := run_append_grows ht hts hi hs1 hpos hb2 (base := some ⟨K.β b, o, none⟩) (m := m) (cp := cp) (old := vs) (x := x') hz hN hfit hsm hbt hold
              rw [g3]
              have hrl : rest.size = (cap2 - (m + n)) * sz := by rw [g2]; exact zeroCells_len hzs hpos
              have hol : ((c.drop off).take (m * sz)).length = m * sz := by rw [k3.len, k1]
              have hrow := grown_row (K := K) (bs := bs) (w := w) (old := vs) (us := us) (new := new) (rest := rest) k3 hNrep (fun j u hu => (k2 j u hu).2) hN.one e ⟨(i0.cl || cleanL ((c.drop off).take (m * sz))) && (ncl && plainL zc), sz, true, true⟩ (fun h => by
                simp only [Bool.and_eq_true, Bool.or_eq_true] at h
                exact cleanL_app_of (h.1.elim k4 id) (hN.clean h.2.1)) rfl
              refine good_row (cap := none) (n := m + n) (cp := cap2) hr hn rfl hrow (by simp [verA]) g1 (fun m hm => by cases hm) (fun _ => ?_) _ (w.drawn + 1) rfl
              simp only [List.length_append]
              rw [hNlen, hrl, hnewl, hol, k1]
              have h8 : (cap2 - (m + n)) * sz + (m * sz + n * sz) = cap2 * sz := by rw [← Nat.add_mul, ← Nat.add_mul]; congr 1; omega
              have h9 := le_mul_cap (sz := sz) g1
              rw [Nat.add_mul] at h9
              omega
          · exact (fail_run hm).elim
        · -- a row of an open block
          rename_i b off m ver
          obtain ⟨y, o, cp, rfl, q1, q2, q3, q4, q5⟩ := hs.inv_rsl
          simp only [lenOfA, Option.getD_some] at hsm hbt
          have hm' := blk_run hm
          clear hm
          obtain ⟨blk, hb, hm⟩ := hm'
          split at hm
          · rename_i c i0
            split at hm
            · rename_i hcd
              obtain ⟨hv0, hop, hw, hsz0, hcl⟩ := hcd
              have hv : ver = verOf c i0 := by unfold verOf verA; rw [hop]; exact hv0
              obtain ⟨k1, k2⟩ := q5 c i0 hb hv
              obtain ⟨k3, k4⟩ := k2 rfl
              subst k1
              rw [hsz0] at k3 k4
              obtain ⟨cc, el, lo, hi', ws, r1, r2, r3, r4, r5, r6⟩ := hr.row hb
              split at hm
              · rename_i hext
                obtain ⟨rfl, hcm⟩ := hext
                have := ret_run hm; subst this
                have hwl : ws.length = m * sz := by rw [← r5.len, hcm]
                have hmul : (m + n) * sz = m * sz + n * sz := Nat.add_mul _ _ _
                by_cases hfit : m + n ≤ cp
                · -- in place
                  have h9 := le_mul_cap (sz := sz) hfit
                  have hput := run_put P us (K.β b) (m * sz) 0 w cc el lo hi' r1 r2.not (by rw [r3, hNlen]; omega) (fun v hv => by
                    obtain ⟨j, hj⟩ := List.getElem?_of_mem hv
                    exact hN.one j v hj)
                  rw [Nat.add_zero] at hput
                  have hst : ∀ a, some (⟨K.β b, o, none⟩ : Addr) = some a → (storeCells (a.add (m * sz)) us).run P w = .ok () { w with heap := rowPut w.heap (K.β b) (spliceV cc.toList (m * sz) us) } := by
                    intro a ha
                    cases ha
                    rw [add_addr]
                    rcases q4 with q4 | q4
                    · have hm0 : m = 0 := by omega
                      have hn0 : n = 0 := by omega
                      subst hm0 hn0
                      have hus : us = [] := List.eq_nil_of_length_eq_zero (by rw [hNlen]; simp)
                      rw [hus] at hput ⊢
                      exact hput
                    · rw [q4, Nat.zero_add]; exact hput
                  rw [run_append_fits ht hts hi hs1 hpos hb2 hN hfit hbt hst (fun h => by cases h)]
                  have hsl : (spliceV cc.toList (m * sz) us).length = cc.size := by rw [spliceV_len _ _ _ (by rw [Array.length_toList (xs := cc), r3, hNlen]; omega)]; simp
                  have hget : (bs.set b (.cells (c ++ new) i0))[b]? = some (.cells (c ++ new) i0) := by simp [(List.getElem?_eq_some_iff.1 hb).1]
                  have u : Upd K bs w.heap b (K.β b) (K.κ b) (.cells (c ++ new) i0) (.cells (spliceV cc.toList (m * sz) us).toArray el (lo, hi')) (bs.set b (.cells (c ++ new) i0)) (rowPut w.heap (K.β b) (spliceV cc.toList (m * sz) us)) := by
                    refine ⟨hget, fun d hd => by rw [List.getElem?_set, if_neg (fun e => hd e.symm)], by rw [rowPut_size]; exact Nat.le_refl _, rowPut_here r1 _, fun d _ hd => rowPut_there _ hd,
                      .inr (.inr ⟨_, hb, hw, ⟨rfl, rfl, fun h => by rw [hop] at h; cases h⟩, ?_, fun _ => ⟨rfl, rfl⟩⟩), .inr ⟨rfl, _, hb, hw⟩, rfl, hw, ?_⟩
                    · simp [AB.ver, verA, hop]
                    · refine ⟨_, el, lo, hi', ws ++ us, rfl, by rw [List.size_toArray, hsl]; exact r2, by rw [List.size_toArray, hsl, r3], ?_, r5.app hNrep, fun h => cleanL_app_of (r6 h) (hcl.elim (fun h' => by rw [h] at h'; cases h') hN.clean)⟩
                      intro j v hv
                      rw [List.getElem?_toArray, spliceV_get _ _ _ (by rw [Array.length_toList (xs := cc), r3, hNlen]; omega)]
                      rw [List.getElem?_append] at hv
                      split at hv
                      · rename_i hj
                        rw [if_pos (by omega)]
                        simpa using r4 j v hv
                      · rename_i hj
                        have hj2 := (List.getElem?_eq_some_iff.1 hv).1
                        rw [if_neg (by omega), if_pos (by omega)]
                        rw [hwl] at hv
                        exact ⟨hv, hN.one _ _ hv⟩
                  have hbs : appBs bs nid (.blk b (.cells (c ++ new) i0)) = bs.set b (.cells (c ++ new) i0) := rfl
                  rw [show (ValGood K bs w nid (.rsl b 0 (m + n) none ((c ++ new).length + 1), .blk b (.cells (c ++ new) i0)) _) = _ from rfl]
                  refine ⟨_, _, _, rfl, ⟨u.tr hr, u.hr hr, rfl, rfl, rfl⟩, ?_⟩
                  refine .rsl ⟨_, hget, rfl, fun _ => by simp [AB.ver, verA, hop]⟩ hfit (fun m hm => by cases hm) q4 fun c' i' hc' hv' => ?_
                  rw [hbs, hget] at hc'
                  cases hc'
                  simp only [updN_same]
                  refine ⟨trivial, fun _ => ?_⟩
                  rw [hsz0, List.length_append, hcm, hnewl]
                  omega
                · -- a new row
                  have hpos2 : 0 < n := by omega
                  have hold : ∀ w2 : World, w2.heap = w.heap → (Builtin.firstCells sz m (.slice (some ⟨K.β b, o, none⟩) m cp)).run P w2 = .ok ws.toArray w2 := by
                    intro w2 hw2
                    rcases q4 with q4 | q4
                    · have hm0 : m = 0 := by omega
                      subst hm0
                      have hvs : ws = [] := List.eq_nil_of_length_eq_zero (by omega)
                      subst hvs
                      simp [Builtin.firstCells, loadCells, loadCellsFrom]
                    · subst q4
                      have := run_cells P w2 (K.β b) 0 ws (fun j u hu => by
                        rw [hw2, Nat.zero_add]
                        unfold cellH
                        rw [r1]
                        exact (r4 j u hu).1)
                      rw [hwl] at this
                      exact this
                  obtain ⟨cap2, rest, g1, g2, g3⟩ := run_append_grows ht hts hi hs1 hpos hb2 (base := some ⟨K.β b, o, none⟩) (m := m) (cp := cp) (old := ws) (x := x') hz hN hfit hsm hbt hold
                  rw [g3]
                  have hrl : rest.size = (cap2 - (m + n)) * sz := by rw [g2]; exact zeroCells_len hzs hpos
                  have hrow := grown_row (K := K) (bs := bs) (w := w) (old := ws) (us := us) (new := new) (rest := rest) r5 hNrep (fun j u hu => (r4 j u hu).2) hN.one e i0 (fun h => cleanL_app_of (r6 h) (hcl.elim (fun h' => by rw [h] at h'; cases h') hN.clean)) rfl
                  have hget : (bs.set b (.cells (c ++ new) i0))[b]? = some (.cells (c ++ new) i0) := by simp [(List.getElem?_eq_some_iff.1 hb).1]
                  have hlt := hr.lt b _ hb rfl
                  have u : Upd K bs w.heap b w.heap.size (ws.length + us.length + rest.size) (.cells (c ++ new) i0) (.cells (ws.toArray ++ us.toArray ++ rest) e (0, 0)) (bs.set b (.cells (c ++ new) i0)) (w.heap.push (.cells (ws.toArray ++ us.toArray ++ rest) e)) := by
                    refine ⟨hget, fun d hd => by rw [List.getElem?_set, if_neg (fun e => hd e.symm)], by simp, get_push_last _ _, fun d hd _ => get_push_lt _ hd,
                      .inr (.inr ⟨_, hb, hw, ⟨rfl, rfl, fun h => by rw [hop] at h; cases h⟩, ?_, fun he => ?_⟩), .inl (Nat.le_refl _), rfl, hw, hrow⟩
                    · simp [AB.ver, verA, hop]
                    · exfalso
                      have := Nat.mul_pos hpos2 hpos
                      simp [AB.ver, verA, hop, hnewl] at he
                      omega
                  have hbs : appBs bs nid (.blk b (.cells (c ++ new) i0)) = bs.set b (.cells (c ++ new) i0) := rfl
                  have htr := u.tr hr
                  have hhr := u.hr hr
                  refine ⟨_, _, _, rfl, ⟨htr, hhr, rfl, rfl, rfl⟩, ?_⟩
                  refine .rsl ⟨_, hget, rfl, fun _ => by simp [AB.ver, verA, hop]⟩ g1 (fun m hm => by cases hm) (.inr rfl) fun c' i' hc' hv' => ?_
                  rw [hbs, hget] at hc'
                  cases hc'
                  simp only [updN_same]
                  refine ⟨trivial, fun _ => ?_⟩
                  rw [hsz0, List.length_append, hcm, hnewl, hwl, hNlen, hrl]
                  have h8 : (cap2 - (m + n)) * sz + (m * sz + n * sz) = cap2 * sz := by rw [← Nat.add_mul, ← Nat.add_mul]; congr 1; omega
                  have h9 := le_mul_cap (sz := sz) g1
                  omega
              · split at hm
                · rename_i hl
                  have := ret_run hm; subst this
                  have hmul : (m + n) * sz = m * sz + n * sz := Nat.add_mul _ _ _
                  have hfit : m + n ≤ cp := by
                    have h1 : (m + n) * sz ≤ cp * sz := by omega
                    exact Nat.le_of_mul_le_mul_right h1 hpos
                  obtain ⟨K', w', hrun, hg⟩ := goes_put (nid := nid) (off := off + m * sz) (vs := new) hr P hb hw (by rw [hnewl]; omega) hNrep hN.one (fun h => by
                    rcases hcl with h' | h'
                    · rw [h] at h'; cases h'
                    · exact hN.clean h')
                  have hst : ∀ a, some (⟨K.β b, o, none⟩ : Addr) = some a → (storeCells (a.add (m * sz)) us).run P w = .ok () w' := by
                    intro a ha
                    cases ha
                    rw [add_addr]
                    rcases q4 with q4 | q4
                    · have hm0 : m = 0 := by omega
                      have hn0 : n = 0 := by omega
                      subst hm0 hn0
                      have hus : us = [] := List.eq_nil_of_length_eq_zero (by rw [hNlen]; simp)
                      rw [hus] at hrun ⊢
                      exact hrun
                    · rw [q4]; exact hrun
                  rw [run_append_fits ht hts hi hs1 hpos hb2 hN hfit hbt hst (fun h => by cases h)]
                  refine ⟨_, w', K', rfl, hg, ?_⟩
                  have hL := hg.lat hr
                  have hs2 : RepV K bs w.heap (.rsl b off (m + n) none ver) (.slice (some ⟨K.β b, o, none⟩) (m + n) cp) := .rsl q1 hfit q3 q4 fun c i hc hv => q5 c i hc hv
                  exact hs2.mono hL
                · exact (fail_run hm).elim
            · exact (fail_run hm).elim
          · exact (fail_run hm).elim
        · exact (fail_run hm).elim
      · exact (fail_run hm).elim
    · exact (fail_run hm).elim
  · exact (fail_run hm).elim
end ops
end Go.Proofs.Ytnkeijebkpjdgaa.Ab
