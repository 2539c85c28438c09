import Derived.Test.YtbebcbcnibfbhaaEJ
/- The engine, eleventh text: cells of slices; conversions; append, copy, make. -/
namespace Go.Proofs.Ytbebcbcnibfbhaa.Ab
open Go

section ops
variable {P : Program} {K : KS} {bs : List AB} {w : World}

theorem un_sound {hp : Array Obj} {op : UnOp} {a r : AV} {x : Value} (ha : RepV K bs hp a x) (h : unA op a = some r) : ∃ v, (Op.unary op x).run P w = .ok v w ∧ RepV K bs hp r v := by
  unfold unA at h
  split at h
  · have := ha.inv_int; subst this
    cases h
    exact ⟨_, by simp only [Op.unary, Op.intArith]; rfl, .clean (.int _ _)⟩
  · have := ha.inv_int; subst this
    cases h
    exact ⟨_, by simp only [Op.unary, Op.intBits]; rfl, .clean (.int _ _)⟩
  · have := ha.inv_bool; subst this
    cases h
    exact ⟨_, rfl, .clean (.bool _)⟩
  · cases h

theorem lenOf_sound {hp : Array Obj} {a : AV} {x : Value} {n : Nat} (ha : RepV K bs hp a x) (h : lenOfA a = some n) :
    (Builtin.lenOf x).run P w = .ok n w ∧ ((∃ p c, x = .slice p n c) ∨ ∃ s : ByteArray, x = .string s ∧ s.size = n) := by
  unfold lenOfA at h
  split at h <;> cases h
  · have := ha.inv_sl0; subst this; exact ⟨rfl, .inl ⟨_, _, rfl⟩⟩
  · obtain ⟨b, o, sp, cap, us, rfl, _⟩ := ha.inv_sl; exact ⟨rfl, .inl ⟨_, _, rfl⟩⟩
  · obtain ⟨x, o, cp, rfl, _⟩ := ha.inv_rsl; exact ⟨rfl, .inl ⟨_, _, rfl⟩⟩
  · obtain ⟨t, rfl, ht⟩ := ha.inv_str
    exact ⟨by simp [Builtin.lenOf, bytes_size ht], .inr ⟨t, rfl, bytes_size ht⟩⟩
theorem lenOf_slice {hp : Array Obj} {a : AV} {x : Value} {n : Nat} (ha : RepV K bs hp a x) (h : lenOfA a = some n) (hs : ∀ s, a ≠ .str s) : ∃ p c, x = .slice p n c := by
  unfold lenOfA at h
  split at h <;> cases h
  · have := ha.inv_sl0; subst this; exact ⟨_, _, rfl⟩
  · obtain ⟨b, o, sp, cap, us, rfl, _⟩ := ha.inv_sl; exact ⟨_, _, rfl⟩
  · obtain ⟨x, o, cp, rfl, _⟩ := ha.inv_rsl; exact ⟨_, _, rfl⟩
  · exact absurd rfl (hs _)
theorem byteCells_rep {hp : Array Obj} (l : List UInt8) : RepVL K bs hp (byteCells l) (l.map fun b => Value.int .u8 b.toNat) := RepVL.map fun _ _ => .clean (.int _ _)
theorem byteCells_one {l : List UInt8} : ∀ (j : Nat) (u : Value), (l.map fun b => Value.int .u8 b.toNat)[j]? = some u → u.oneCell' = true := by
  intro j u hu
  rw [List.getElem?_map] at hu
  cases h : l[j]? with
  | none => simp [h] at hu
  | some b => simp [h] at hu; subst hu; rfl
theorem byteCells_clean (l : List UInt8) : cleanL (byteCells l) = true := by
  rw [cleanL_mem]
  intro a ha
  obtain ⟨b, _, rfl⟩ := List.mem_map.1 ha
  rfl

/-- What the cells of a slice are, in the machine. -/
structure Cells (P : Program) (K : KS) (bs : List AB) (w : World) (size n : Nat) (x : Value) (c : List AV) (cl : Bool) (us : List Value) : Prop where
  run : ∀ w2 : World, w2.heap = w.heap → (Builtin.firstCells size n x).run P w2 = .ok us.toArray w2
  len : us.length = n * size
  rep : RepVL K bs w.heap c us
  one : ∀ (j : Nat) (u : Value), us[j]? = some u → u.oneCell' = true
  clean : cl = true → cleanL c = true
theorem sliceCells_sound (hr : HR K bs w.heap) {size n : Nat} {a : AV} {x : Value} (ha : RepV K bs w.heap a x) {k : List AV → Bool → AM Out} {r : Out} (hm : (sliceCells size n a k).run bs = some r) :
    ∃ c cl us, Cells P K bs w size n x c cl us ∧ (k c cl).run bs = some r := by
  unfold sliceCells at hm
  split at hm
  · have := ha.inv_sl0; subst this
    split at hm
    · rename_i h0
      subst h0
      exact ⟨[], true, [], ⟨fun w2 _ => by simp [Builtin.firstCells], by simp, .nil, fun j u hu => by simp at hu, fun _ => rfl⟩, hm⟩
    · exact (fail_run hm).elim
  · rename_i cells m tight
    obtain ⟨b, o, sp, cap, us, rfl, g1, g2, g3, g4, g5, g6⟩ := ha.inv_sl
    split at hm
    · rename_i hc
      have hus := g5.len
      have hcells : (if n = m ∧ cells.length = n * size then cells else cells.take (n * size)) = cells.take (n * size) := by
        split
        · rename_i h; rw [List.take_of_length_le (by omega)]
        · rfl
      rw [hcells] at hm
      have hlen : (us.take (n * size)).length = n * size := by rw [List.length_take]; omega
      refine ⟨_, true, us.take (n * size), ⟨fun w2 hw => ?_, hlen, .of_clean (g5.take _), fun j u hu => ?_, fun _ => (g5.take _).isClean⟩, hm⟩
      · rcases g6 with rfl | rfl
        · have := run_cells P w2 b o (us.take (n * size)) (fun j u hu => by
            rw [hw]
            rw [List.getElem?_take] at hu
            split at hu
            · exact (g4 _ _ hu).1
            · cases hu)
          rw [hlen] at this
          exact this
        · obtain rfl : n = 0 := by omega
          simp [Builtin.firstCells, loadCells, loadCellsFrom]
      · rw [List.getElem?_take] at hu
        split at hu
        · exact (g4 _ _ hu).2
        · cases hu
    · exact (fail_run hm).elim
  · rename_i b off m cap ver
    obtain ⟨y, o, cp, rfl, g1, g2, g3, g4, g5⟩ := ha.inv_rsl
    split at hm
    · rename_i hn
      obtain ⟨c, i, hb, hm⟩ := info_run hm
      split at hm
      · rename_i hv
        obtain ⟨c2, i2, hb2, hl, hm⟩ := cells_run hm
        rw [hb] at hb2; cases hb2
        obtain ⟨us, h1, h2, h3, h4⟩ := read_cells hr hb hl
        have hy := (g5 c i hb hv).1
        subst hy
        refine ⟨_, _, us, ⟨fun w2 hw => ?_, h1, h3, fun j u hu => (h2 j u hu).2, fun hcl => ?_⟩, hm⟩
        · rcases g4 with g4 | g4
          · have h9 : n = 0 := by omega
            have h0 : n * size = 0 := by rw [h9]; simp
            have hnil : us = [] := List.eq_nil_of_length_eq_zero (by omega)
            subst hnil
            simp [Builtin.firstCells, h0, loadCells, loadCellsFrom]
          · subst g4
            have := run_cells P w2 (K.β b) o us (fun j u hu => by rw [hw]; exact (h2 j u hu).1)
            rw [h1] at this
            exact this
        · simp only [Bool.or_eq_true] at hcl
          rcases hcl with h | h
          · exact h4 h
          · exact h
      · exact (fail_run hm).elim
    · exact (fail_run hm).elim
  · rename_i s
    obtain ⟨t, rfl, ht⟩ := ha.inv_str
    split at hm
    · rename_i hc
      obtain ⟨hn, rfl⟩ := hc
      have e : ((t.extract 0 n).data.map fun b => Value.int .u8 b.toNat) = ((s.take n).map fun b => Value.int .u8 b.toNat).toArray := by
        subst ht
        rw [ByteArray.data_extract]
        apply Array.ext'
        rw [Array.toList_map, Array.toList_extract]
        simp [List.extract]
      refine ⟨_, true, (s.take n).map fun b => Value.int .u8 b.toNat, ⟨fun w2 _ => ?_, ?_, byteCells_rep _, byteCells_one, fun _ => byteCells_clean _⟩, hm⟩
      · simp only [Builtin.firstCells, Sem.run_pure]
        rw [e]
      · rw [List.length_map, List.length_take]; omega
    · exact (fail_run hm).elim
  · exact (fail_run hm).elim
theorem toBytes_sound : ∀ {c : List AV} {us : List Value} {s : List UInt8} {hp : Array Obj}, RepVL K bs hp c us → toBytes c = some s → ∃ ns : List Int, us = ns.map (Value.int .u8) ∧ s = ns.map fun n => UInt8.ofNat n.toNat
  | [], us, s, hp, h, hs => by
    cases h
    simp [toBytes] at hs
    subst hs
    exact ⟨[], rfl, rfl⟩
  | a :: c, us, s, hp, h, hs => by
    cases h with
    | cons h0 h =>
      unfold toBytes at hs
      split at hs
      · rename_i e; cases e
      · rename_i n r e
        cases e
        cases ht : toBytes c with
        | none => simp [ht] at hs
        | some s' =>
          simp [ht] at hs
          obtain ⟨ns, h1, h2⟩ := toBytes_sound h ht
          have := h0.inv_int; subst this
          exact ⟨n :: ns, by simp [h1], by rw [← hs, h2]; rfl⟩
      · cases hs
theorem push_bytes : ∀ (ns : List Int) (r : ByteArray), (ns.foldl (fun r n => r.push (UInt8.ofNat n.toNat)) r).data.toList = r.data.toList ++ ns.map fun n => UInt8.ofNat n.toNat
  | [], r => by simp
  | n :: ns, r => by
    rw [List.foldl_cons, push_bytes ns]
    simp [ByteArray.push]
theorem convert_sound (hr : HR K bs w.heap) {nid : Nat} (hn : nid = bs.length ∨ bs[nid]? = some .void) {src dst : TypeId} {a : AV} {x : Value} (ha : RepV K bs w.heap a x) {r : Out} (hm : (convertA P nid src dst a).run bs = some r) :
    ValGood K bs w nid r ((convert src dst x).run P w) := by
  unfold convertA at hm
  split at hm
  · rename_i ds k k2 n hs hd
    have := ha.inv_int; subst this
    have := ret_run hm; subst this
    have hrun : (convert src dst (.int k2 n)).run P w = .ok (.int k (k.wrap n)) w := by
      simp [convert, run_undA hs, run_undA hd, Conv.intToInt]
    rw [hrun]
    exact good_none hr (.clean (.int _ _))
  · rename_i s hs hd
    obtain ⟨t, rfl, ht⟩ := ha.inv_str
    have := ret_run hm; subst this
    have hrun : (convert src dst (.string t)).run P w = .ok (.string t) w := by
      simp [convert, run_undA hs, run_undA hd]
    rw [hrun]
    exact good_none hr ha
  · rename_i ds e b off n cap ver hs hd
    split at hm
    · rename_i he
      split at hm
      · rename_i hsd
        subst hsd
        have hde := hs.symm.trans hd
        cases hde
        obtain ⟨c, i, hb, hm⟩ := info_run hm
        split at hm
        · rename_i hwv
          obtain ⟨hw, hv⟩ := hwv
          have := ret_run hm; subst this
          obtain ⟨y, o, cp, rfl, g1, g2, g3, g4, g5⟩ := ha.inv_rsl
          obtain rfl := (g5 c i hb hv).1
          obtain ⟨cc, el, lo, hi, us, q1, q2, q3, q4, q5, q6⟩ := hr.row hb
          obtain ⟨lo', hlo⟩ : ∃ x, x = if lo == hi then cc.size else min lo cc.size := ⟨_, rfl⟩
          obtain ⟨hi', hhi⟩ : ∃ x, x = if lo == hi then cc.size + 1 else max hi (cc.size + 1) := ⟨_, rfl⟩
          have hsh : w.shape? (K.β b) = some (el, cc.size) := by unfold World.shape?; rw [q1]
          have hrun : (convert src src (.slice (some ⟨K.β b, o, none⟩) n cp)).run P w = .ok (.slice (some ⟨K.β b, o, none⟩) n cp) (w.freeze ⟨K.β b, cc.size, none⟩ 1) := by
            simp only [convert, Sem.run_bind, run_undA hs, run_undA he, Result.andThen_ok, beq_self_eq_true]
            simp [markStringish, hsh]
          have hheap : (w.freeze ⟨K.β b, cc.size, none⟩ 1).heap[K.β b]? = some (.cells cc el (lo', hi')) ∧ ∀ d, d ≠ K.β b → (w.freeze ⟨K.β b, cc.size, none⟩ 1).heap[d]? = w.heap[d]? := by
            unfold World.freeze
            rw [if_neg (by decide)]
            refine ⟨?_, fun d hd => ?_⟩
            · rw [Array.getElem?_modify, if_pos rfl, q1, hlo, hhi]
              simp only [Option.map_some]
              congr 2
              split <;> rfl
            · rw [Array.getElem?_modify, if_neg (fun e => hd e.symm)]
          have hsize : (w.freeze ⟨K.β b, cc.size, none⟩ 1).heap.size = w.heap.size := by
            unfold World.freeze
            rw [if_neg (by decide)]
            simp
          have u : Upd K bs w.heap b (K.β b) (K.κ b) (.cells c i) (.cells cc el (lo', hi')) bs (w.freeze ⟨K.β b, cc.size, none⟩ 1).heap := by
            refine ⟨hb, fun _ _ => rfl, by rw [hsize]; exact Nat.le_refl _, hheap.1, fun d _ hd => hheap.2 d hd, .inr (.inr ⟨_, hb, hw, ⟨rfl, rfl, fun _ => rfl⟩, Nat.le_refl _, fun _ => ⟨rfl, rfl⟩⟩), .inr ⟨rfl, _, hb, hw⟩, rfl, hw,
              cc, el, lo', hi', us, rfl, ?_, q3, q4, q5, q6⟩
            unfold Unfr at q2 ⊢
            rw [hlo, hhi]
            by_cases hlh : lo = hi
            · right; simp [hlh]
            · right
              have : (lo == hi) = false := by simpa using hlh
              simp only [this]
              simp only [Bool.false_eq_true, if_false]
              omega
          rw [hrun]
          have hfz : ∀ w2 : World, w2 = w.freeze ⟨K.β b, cc.size, none⟩ 1 → w2.os = w.os ∧ w2.tape = w.tape ∧ w2.output = w.output := by
            intro w2 h
            subst h
            unfold World.freeze
            rw [if_neg (by decide)]
            exact ⟨rfl, rfl, rfl⟩
          obtain ⟨f1, f2, f3⟩ := hfz _ rfl
          exact ⟨_, _, _, rfl, ⟨u.tr hr, u.hr hr, f1, f2, f3⟩, ha.mono ((u.tr hr).lat hr)⟩
        · exact (fail_run hm).elim
      · exact (fail_run hm).elim
    · exact (fail_run hm).elim
  · rename_i ds e s hs hd
    obtain ⟨t, rfl, ht⟩ := ha.inv_str
    split at hm
    · rename_i he
      have := ret_run hm; subst this
      have hcapn : s.length ≤ grownCap w s.length 0 e := Nat.le_add_right _ _
      obtain ⟨cp, hcp⟩ : ∃ cp, grownCap w s.length 0 e = cp := ⟨_, rfl⟩
      rw [hcp] at hcapn
      have hrun : (convert src dst (.string t)).run P w = .ok (.slice (some ⟨w.heap.size, 0, none⟩) s.length cp) { w with heap := w.heap.push (.cells (bytesRow t cp) e ((bytesRow t cp).size, (bytesRow t cp).size + 1)), drawn := w.drawn + 1 } := by
        have hfr : ∀ (C : Array Value) (n : Nat), (w.drew.alloc (.cells C e)).freeze ⟨w.heap.size, n, none⟩ 1 = w.drew.alloc (.cells C e (n, n + 1)) := fun C n => by
          have hm : ∀ (a : Array Obj) (x : Obj) (f : Obj → Obj), (a.push x).modify a.size f = a.push (f x) := by
            intro a x f
            apply Array.ext
            · simp
            · intro i h1 h2
              simp only [Array.getElem_modify, Array.getElem_push]
              by_cases h : a.size = i
              · subst h
                simp
              · have hi : i < a.size := by simp at h1; omega
                simp [h, hi]
          unfold World.freeze
          rw [if_neg (by decide)]
          show ({ w.drew.alloc (.cells C e) with heap := (w.heap.push (.cells C e)).modify w.heap.size _ } : World) = _
          rw [hm]
          rfl
        have hsh : ∀ (C : Array Value), (w.drew.alloc (.cells C e)).shape? w.heap.size = some (e, C.size) := fun C => by
          have : (w.drew.alloc (.cells C e)).heap[w.heap.size]? = some (.cells C e) := by
            show (w.heap.push (.cells C e))[w.heap.size]? = _
            simp
          unfold World.shape?
          rw [this]
        have hst : (Conv.stringToBytes e t).run P w = .ok (.slice (some ⟨w.heap.size, 0, none⟩) t.size (grownCap w t.size 0 e)) (w.drew.alloc (.cells (bytesRow t (grownCap w t.size 0 e)) e ((bytesRow t (grownCap w t.size 0 e)).size, (bytesRow t (grownCap w t.size 0 e)).size + 1))) := by
          simp [Conv.stringToBytes, Question.forced, newRow, markStringish, hsh, grownCap, bytesRow]
          exact hfr _ _
        rw [bytes_size ht, hcp] at hst
        have hd2 : ∀ u : TypeDesc, (match u, TypeDesc.slice e, Value.string t with
            | _, .slice e, .string s => True
            | _, _, _ => True) := fun _ => trivial
        simp only [convert, Sem.run_bind, run_undA hs, run_undA hd, Result.andThen_ok]
        have : ∀ {β : Type} (f : TypeDesc → Sem β), ((underlying e) >>= f).run P w = (f (.int .u8)).run P w := by
          intro β f
          simp [run_undA he]
        cases ds <;> (simp only [run_undA he, Result.andThen_ok]; exact hst)
      rw [hrun]
      have hrow : (bytesRow t cp).toList = (s.map fun b => Value.int .u8 b.toNat) ++ List.replicate (cp - s.length) (.int .u8 0) := by
        unfold bytesRow
        rw [bytes_size ht]
        subst ht
        simp
      have hsz : (bytesRow t cp).size = cp := by
        rw [← Array.length_toList, hrow]
        simp
        omega
      refine good_row hr hn (k := cp) rfl ⟨bytesRow t cp, e, _, _, s.map fun b => Value.int .u8 b.toNat, rfl, .inr ⟨Nat.le_refl _, by omega⟩, hsz, fun j u hu => ⟨?_, byteCells_one j u hu⟩, byteCells_rep s, fun _ => byteCells_clean s⟩ (by simp [verA, byteCells]) hcapn (fun m hm => by cases hm) (fun _ => ?_) _ (w.drawn + 1) rfl
      · rw [← Array.getElem?_toList, hrow, List.getElem?_append_left]
        · exact hu
        · exact (List.getElem?_eq_some_iff.1 hu).1
      · simp [byteCells]
        exact hcapn
    · exact (fail_run hm).elim
  · rename_i e hs hd
    split at hm
    · rename_i he
      split at hm
      · exact (fail_run hm).elim
      · rename_i hns
        split at hm
        · rename_i n hl
          obtain ⟨c, cl, us, hc, hm⟩ := sliceCells_sound (P := P) hr ha hm
          split at hm
          · rename_i s hts
            have := ret_run hm; subst this
            obtain ⟨ns, h1, h2⟩ := toBytes_sound hc.rep hts
            obtain ⟨p, cp, rfl⟩ := lenOf_slice ha hl (fun s hs => hns s hs)
            have hlen := hc.len
            cases p with
            | none =>
              have h4 := hc.run w rfl
              simp only [Builtin.firstCells, Sem.run_pure, Result.ok.injEq, and_true] at h4
              have hnil : us = [] := by
                have := congrArg Array.toList h4
                simpa using this.symm
              subst hnil
              have hns : ns = [] := by
                cases ns with
                | nil => rfl
                | cons _ _ => cases h1
              subst hns
              have hrun : (convert src dst (.slice none n cp)).run P w = .ok (.string .empty) w := by
                simp [convert, run_undA hs, run_undA hd, run_undA he, Conv.bytesToString]
              rw [hrun]
              refine good_none hr (.clean ?_)
              rw [h2]
              exact .str ByteArray.empty
            | some q =>
              have h4 := hc.run w rfl
              simp only [Builtin.firstCells, Nat.mul_one, h1] at h4
              have hrun : (convert src dst (.slice (some q) n cp)).run P w = .ok (.string (ns.foldl (fun r n => r.push (UInt8.ofNat n.toNat)) ByteArray.empty)) w := by
                simp only [convert, Sem.run_bind, run_undA hs, run_undA hd, run_undA he, Result.andThen_ok]
                exact run_bytesToString w q n cp ns h4
              rw [hrun]
              refine good_none hr (.clean ?_)
              have := push_bytes ns ByteArray.empty
              rw [h2]
              have e2 : (ns.foldl (fun r n => r.push (UInt8.ofNat n.toNat)) ByteArray.empty).data.toList = ns.map fun n => UInt8.ofNat n.toNat := by rw [this]; rfl
              rw [← e2]
              exact .str _
          · exact (fail_run hm).elim
        · exact (fail_run hm).elim
    · exact (fail_run hm).elim
  · exact (fail_run hm).elim
end ops
end Go.Proofs.Ytbebcbcnibfbhaa.Ab
