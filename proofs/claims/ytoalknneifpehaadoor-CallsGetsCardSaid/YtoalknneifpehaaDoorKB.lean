import Derived.Test.YtoalknneifpehaaDoorH7
import Derived.Deep.RegionHeld3
import Derived.Deep.RegionLaw
import Derived.ArgAppend
import Derived.Deep.DeepAppendRoom
import Derived.Laws.OwnMore
import Derived.Deep.Onto
import Derived.Deep.QuietTactic
import Derived.BigQuiet
namespace Go.Proofs.YtoalknneifpehaaDoor.Hand
open Go.RowKit Go.Proofs.YtoalknneifpehaaDoorW.PrintWords Go.Proofs.YtoalknneifpehaaDoorW.PrintLast Go.Proofs.YtoalknneifpehaaDoorW.PrintMore
set_option linter.unusedVariables false
set_option linter.unusedSimpArgs false

/-! ### A Book: lists that were answered, and what is put behind them -/
/-- What a book holds of one list: the list, the list with more behind it, its number, its length. -/
structure Ent where
  la : Option Addr
  len : Nat
  lc : Nat
  ga : Option Addr
  gn : Nat
  gc : Nat
  n : Int
abbrev Ent.l (e : Ent) : Value := .slice e.la e.len e.lc
abbrev Ent.lg (e : Ent) : Value := .slice e.ga e.gn e.gc
def Ent.cells (e : Ent) : List Value := [e.l, e.lg, .int .i64 e.n]
def eCells (es : List Ent) : List Value := es.flatMap Ent.cells
theorem eCells_len : ∀ es : List Ent, (eCells es).length = es.length * 3
  | [] => rfl
  | e :: es => by
    show (e.cells ++ eCells es).length = _
    rw [List.length_append, eCells_len es]; simp [Ent.cells]; omega
theorem eCells_at : ∀ (es : List Ent) (i j : Nat) (h : i < es.length), j < 3 → (eCells es)[i * 3 + j]? = (es[i].cells)[j]?
  | e :: es, 0, j, h, hj => by
    show (e.cells ++ eCells es)[0 * 3 + j]? = _
    rw [List.getElem?_append_left (by simp [Ent.cells]; omega)]
    simp
  | e :: es, i + 1, j, h, hj => by
    show (e.cells ++ eCells es)[(i + 1) * 3 + j]? = _
    rw [List.getElem?_append_right (by simp [Ent.cells]; omega)]
    have := eCells_at es i j (by simpa using h) hj
    rw [show (i + 1) * 3 + j - e.cells.length = i * 3 + j by simp [Ent.cells]; omega]
    rw [this]; rfl
theorem eCells_append (a b : List Ent) : eCells (a ++ b) = eCells a ++ eCells b := List.flatMap_append ..

/-- The number of an entry turned. -/
def Ent.lgTo (e : Ent) (ga : Option Addr) (gn gc : Nat) : Ent := ⟨e.la, e.len, e.lc, ga, gn, gc, e.n⟩
theorem eCells_set : ∀ (es : List Ent) (i : Nat) (h : i < es.length) (ga : Option Addr) (gn gc : Nat), (eCells es).set (i * 3 + 1) (.slice ga gn gc) = eCells (es.set i (es[i].lgTo ga gn gc))
  | e :: es, 0, h, ga, gn, gc => by
    show (e.cells ++ eCells es).set (0 * 3 + 1) _ = _
    rw [List.set_append_left (h := by simp [Ent.cells])]
    rfl
  | e :: es, i + 1, h, ga, gn, gc => by
    show (e.cells ++ eCells es).set ((i + 1) * 3 + 1) _ = _
    rw [List.set_append_right (h := by simp [Ent.cells]; omega)]
    have := eCells_set es i (by simpa using h) ga gn gc
    rw [show (i + 1) * 3 + 1 - e.cells.length = i * 3 + 1 by simp [Ent.cells]; omega, this]
    rfl

theorem grownBy_setCellO (w : World) (g o : Nat) (v : Value) : w.grownBy (w.setCell ⟨g, o, none⟩ v) (some g) :=
  ⟨rfl, rfl, rfl, by simp, fun k _ hne => Below.heap_setCell _ _ _ _ (fun e => hne (by rw [show k = g from e]))⟩
/-- The book's own block. -/
def BkBlk (w : World) (K : Nat) (nn : Int) (vB vN : Value) : Prop :=
  w.heap[K]? = some (.cells #[.int .i64 nn, vB, vN, .slice none 0 0, .slice none 0 0, .slice none 0 0, .slice none 0 0, .slice none 0 0] 44 (0, 0))
section
variable {w : World} {K : Nat} {nn : Int} {vB vN : Value}
theorem BkBlk.lt (h : BkBlk w K nn vB vN) : K < w.heap.size := (Array.getElem?_eq_some_iff.1 h).1
theorem BkBlk.c0 (h : BkBlk w K nn vB vN) : w.cell? ⟨K, 0, none⟩ = some (.int .i64 nn) := by simp [World.cell?, show w.heap[K]? = _ from h]
theorem BkBlk.c1 (h : BkBlk w K nn vB vN) : w.cell? ⟨K, 1, none⟩ = some vB := by simp [World.cell?, show w.heap[K]? = _ from h]
theorem BkBlk.c2 (h : BkBlk w K nn vB vN) : w.cell? ⟨K, 2, none⟩ = some vN := by simp [World.cell?, show w.heap[K]? = _ from h]
theorem BkBlk.c3 (h : BkBlk w K nn vB vN) : w.cell? ⟨K, 3, none⟩ = some (.slice none 0 0) := by simp [World.cell?, show w.heap[K]? = _ from h]
theorem BkBlk.c4 (h : BkBlk w K nn vB vN) : w.cell? ⟨K, 4, none⟩ = some (.slice none 0 0) := by simp [World.cell?, show w.heap[K]? = _ from h]
theorem BkBlk.c5 (h : BkBlk w K nn vB vN) : w.cell? ⟨K, 5, none⟩ = some (.slice none 0 0) := by simp [World.cell?, show w.heap[K]? = _ from h]
theorem BkBlk.c6 (h : BkBlk w K nn vB vN) : w.cell? ⟨K, 6, none⟩ = some (.slice none 0 0) := by simp [World.cell?, show w.heap[K]? = _ from h]
theorem BkBlk.c7 (h : BkBlk w K nn vB vN) : w.cell? ⟨K, 7, none⟩ = some (.slice none 0 0) := by simp [World.cell?, show w.heap[K]? = _ from h]
theorem BkBlk.fz (h : BkBlk w K nn vB vN) (i : Nat) : w.frozen? ⟨K, i, none⟩ = false := by simp [World.frozen?, show w.heap[K]? = _ from h]
theorem BkBlk.set0 (h : BkBlk w K nn vB vN) (x : Int) : BkBlk (w.setCell ⟨K, 0, none⟩ (.int .i64 x)) K x vB vN := by
  obtain ⟨hlt, hk⟩ := Array.getElem?_eq_some_iff.1 h
  show (w.heap.modify K _)[K]? = _
  rw [Array.getElem?_eq_getElem (by rw [Array.size_modify]; exact hlt), Array.getElem_modify_self, hk]
  rfl
theorem BkBlk.set1 (h : BkBlk w K nn vB vN) (x : Value) : BkBlk (w.setCell ⟨K, 1, none⟩ x) K nn x vN := by
  obtain ⟨hlt, hk⟩ := Array.getElem?_eq_some_iff.1 h
  show (w.heap.modify K _)[K]? = _
  rw [Array.getElem?_eq_getElem (by rw [Array.size_modify]; exact hlt), Array.getElem_modify_self, hk]
  rfl
theorem BkBlk.set2 (h : BkBlk w K nn vB vN) (x : Value) : BkBlk (w.setCell ⟨K, 2, none⟩ x) K nn vB x := by
  obtain ⟨hlt, hk⟩ := Array.getElem?_eq_some_iff.1 h
  show (w.heap.modify K _)[K]? = _
  rw [Array.getElem?_eq_getElem (by rw [Array.size_modify]; exact hlt), Array.getElem_modify_self, hk]
  rfl
end

/-- What is kept but for blocks of some types (and what is new). -/
structure TK (T : TypeId → Prop) (w w' : World) : Prop where
  os : w'.os = w.os
  tape : w'.tape = w.tape
  output : w'.output = w.output
  size : w.heap.size ≤ w'.heap.size
  block : ∀ (k : Nat) (c : Array Value) (t : TypeId) (fr : Nat × Nat), w.heap[k]? = some (Obj.cells c t fr) → ¬ T t → w'.heap[k]? = w.heap[k]?
section
variable {T T' : TypeId → Prop} {w w1 w2 : World}
theorem TK.refl (T : TypeId → Prop) (w : World) : TK T w w := ⟨rfl, rfl, rfl, Nat.le_refl _, fun _ _ _ _ _ _ => rfl⟩
theorem TK.trans (h : TK T w w1) (k : TK T w1 w2) : TK T w w2 :=
  ⟨k.os.trans h.os, k.tape.trans h.tape, k.output.trans h.output, Nat.le_trans h.size k.size, fun i c t fr hi hn => (k.block i c t fr ((h.block i c t fr hi hn).trans hi) hn).trans (h.block i c t fr hi hn)⟩
theorem TK.mono (h : TK T w w1) (hs : ∀ t, T t → T' t) : TK T' w w1 := ⟨h.os, h.tape, h.output, h.size, fun i c t fr hi hn => h.block i c t fr hi (fun ht => hn (hs t ht))⟩
theorem TK.of_below (h : Below w.heap.size w w1) (T : TypeId → Prop) : TK T w w1 :=
  ⟨h.os, h.tape, h.output, h.size, fun i c t fr hi _ => h.block i (Array.getElem?_eq_some_iff.1 hi).1⟩
theorem TK.setCell {g o : Nat} {u : Value} {c : Array Value} {t : TypeId} (hb : w.heap[g]? = some (Obj.cells c t (0, 0))) (ht : T t) : TK T w (w.setCell ⟨g, o, none⟩ u) := by
  refine ⟨rfl, rfl, rfl, by simp, fun i c' t' fr hi hn => Below.heap_setCell _ _ _ _ (fun e => hn ?_)⟩
  have e : i = g := e
  subst e; rw [hb] at hi; injection hi with hi; injection hi with _ h2 _; rw [← h2]; exact ht
end
theorem fillText_calls (K : Nat) (w : World) (h : w.cell? ⟨K, 3, none⟩ = some (.slice none 0 0)) :
    Calls Tryd.prog 32 #[.pointer (some ⟨K, 0, none⟩)] w fun e w' => e = .returned (.tuple #[]) ∧ w = w' := by
  go_enter Tryd.func32, Tryd.ntmps32
  go_wp2
  go_loop [2] (fun v => v = .int .i64 0) (fun _ => 0)
  case atStart => exact rfl
  case round =>
    subst hrel
    go_wp2
    go_end0
    exact ⟨rfl, rfl⟩
theorem growText_calls (K : Nat) (w : World) (h : w.cell? ⟨K, 3, none⟩ = some (.slice none 0 0)) :
    Calls Tryd.prog 39 #[.pointer (some ⟨K, 0, none⟩)] w fun e w' => e = .returned (.tuple #[]) ∧ w = w' := by
  go_enter Tryd.func39, Tryd.ntmps39
  go_wp2
  go_loop [2] (fun v => v = .int .i64 0) (fun _ => 0)
  case atStart => exact rfl
  case round =>
    subst hrel
    go_wp2
    go_end0
    exact ⟨rfl, rfl⟩
theorem lookText_calls (K : Nat) (w : World) (h : w.cell? ⟨K, 3, none⟩ = some (.slice none 0 0)) :
    Calls Tryd.prog 46 #[.pointer (some ⟨K, 0, none⟩)] w fun e w' => e = .returned (.bool true) ∧ w = w' := by
  go_enter Tryd.func46, Tryd.ntmps46
  go_wp2
  go_loop [3] (fun v => v = .int .i64 0) (fun _ => 0)
  case atStart => exact rfl
  case round =>
    subst hrel
    go_wp2
    go_ret
    exact ⟨rfl, rfl⟩
theorem fillBlob_calls (K : Nat) (w : World) (h : w.cell? ⟨K, 4, none⟩ = some (.slice none 0 0)) :
    Calls Tryd.prog 33 #[.pointer (some ⟨K, 0, none⟩)] w fun e w' => e = .returned (.tuple #[]) ∧ w = w' := by
  go_enter Tryd.func33, Tryd.ntmps33
  go_wp2
  go_loop [2] (fun v => v = .int .i64 0) (fun _ => 0)
  case atStart => exact rfl
  case round =>
    subst hrel
    go_wp2
    go_end0
    exact ⟨rfl, rfl⟩
theorem growBlob_calls (K : Nat) (w : World) (h : w.cell? ⟨K, 4, none⟩ = some (.slice none 0 0)) :
    Calls Tryd.prog 40 #[.pointer (some ⟨K, 0, none⟩)] w fun e w' => e = .returned (.tuple #[]) ∧ w = w' := by
  go_enter Tryd.func40, Tryd.ntmps40
  go_wp2
  go_loop [2] (fun v => v = .int .i64 0) (fun _ => 0)
  case atStart => exact rfl
  case round =>
    subst hrel
    go_wp2
    go_end0
    exact ⟨rfl, rfl⟩
theorem lookBlob_calls (K : Nat) (w : World) (h : w.cell? ⟨K, 4, none⟩ = some (.slice none 0 0)) :
    Calls Tryd.prog 47 #[.pointer (some ⟨K, 0, none⟩)] w fun e w' => e = .returned (.bool true) ∧ w = w' := by
  go_enter Tryd.func47, Tryd.ntmps47
  go_wp2
  go_loop [3] (fun v => v = .int .i64 0) (fun _ => 0)
  case atStart => exact rfl
  case round =>
    subst hrel
    go_wp2
    go_ret
    exact ⟨rfl, rfl⟩
theorem fillItem_calls (K : Nat) (w : World) (h : w.cell? ⟨K, 5, none⟩ = some (.slice none 0 0)) :
    Calls Tryd.prog 34 #[.pointer (some ⟨K, 0, none⟩)] w fun e w' => e = .returned (.tuple #[]) ∧ w = w' := by
  go_enter Tryd.func34, Tryd.ntmps34
  go_wp2
  go_loop [2] (fun v => v = .int .i64 0) (fun _ => 0)
  case atStart => exact rfl
  case round =>
    subst hrel
    go_wp2
    go_end0
    exact ⟨rfl, rfl⟩
theorem growItem_calls (K : Nat) (w : World) (h : w.cell? ⟨K, 5, none⟩ = some (.slice none 0 0)) :
    Calls Tryd.prog 41 #[.pointer (some ⟨K, 0, none⟩)] w fun e w' => e = .returned (.tuple #[]) ∧ w = w' := by
  go_enter Tryd.func41, Tryd.ntmps41
  go_wp2
  go_loop [2] (fun v => v = .int .i64 0) (fun _ => 0)
  case atStart => exact rfl
  case round =>
    subst hrel
    go_wp2
    go_end0
    exact ⟨rfl, rfl⟩
theorem lookItem_calls (K : Nat) (w : World) (h : w.cell? ⟨K, 5, none⟩ = some (.slice none 0 0)) :
    Calls Tryd.prog 48 #[.pointer (some ⟨K, 0, none⟩)] w fun e w' => e = .returned (.bool true) ∧ w = w' := by
  go_enter Tryd.func48, Tryd.ntmps48
  go_wp2
  go_loop [3] (fun v => v = .int .i64 0) (fun _ => 0)
  case atStart => exact rfl
  case round =>
    subst hrel
    go_wp2
    go_ret
    exact ⟨rfl, rfl⟩
theorem fillEntry_calls (K : Nat) (w : World) (h : w.cell? ⟨K, 6, none⟩ = some (.slice none 0 0)) :
    Calls Tryd.prog 35 #[.pointer (some ⟨K, 0, none⟩)] w fun e w' => e = .returned (.tuple #[]) ∧ w = w' := by
  go_enter Tryd.func35, Tryd.ntmps35
  go_wp2
  go_loop [2] (fun v => v = .int .i64 0) (fun _ => 0)
  case atStart => exact rfl
  case round =>
    subst hrel
    go_wp2
    go_end0
    exact ⟨rfl, rfl⟩
theorem growEntry_calls (K : Nat) (w : World) (h : w.cell? ⟨K, 6, none⟩ = some (.slice none 0 0)) :
    Calls Tryd.prog 42 #[.pointer (some ⟨K, 0, none⟩)] w fun e w' => e = .returned (.tuple #[]) ∧ w = w' := by
  go_enter Tryd.func42, Tryd.ntmps42
  go_wp2
  go_loop [2] (fun v => v = .int .i64 0) (fun _ => 0)
  case atStart => exact rfl
  case round =>
    subst hrel
    go_wp2
    go_end0
    exact ⟨rfl, rfl⟩
theorem lookEntry_calls (K : Nat) (w : World) (h : w.cell? ⟨K, 6, none⟩ = some (.slice none 0 0)) :
    Calls Tryd.prog 49 #[.pointer (some ⟨K, 0, none⟩)] w fun e w' => e = .returned (.bool true) ∧ w = w' := by
  go_enter Tryd.func49, Tryd.ntmps49
  go_wp2
  go_loop [3] (fun v => v = .int .i64 0) (fun _ => 0)
  case atStart => exact rfl
  case round =>
    subst hrel
    go_wp2
    go_ret
    exact ⟨rfl, rfl⟩
theorem fillNode_calls (K : Nat) (w : World) (h : w.cell? ⟨K, 7, none⟩ = some (.slice none 0 0)) :
    Calls Tryd.prog 36 #[.pointer (some ⟨K, 0, none⟩)] w fun e w' => e = .returned (.tuple #[]) ∧ w = w' := by
  go_enter Tryd.func36, Tryd.ntmps36
  go_wp2
  go_loop [2] (fun v => v = .int .i64 0) (fun _ => 0)
  case atStart => exact rfl
  case round =>
    subst hrel
    go_wp2
    go_end0
    exact ⟨rfl, rfl⟩
theorem growNode_calls (K : Nat) (w : World) (h : w.cell? ⟨K, 7, none⟩ = some (.slice none 0 0)) :
    Calls Tryd.prog 43 #[.pointer (some ⟨K, 0, none⟩)] w fun e w' => e = .returned (.tuple #[]) ∧ w = w' := by
  go_enter Tryd.func43, Tryd.ntmps43
  go_wp2
  go_loop [2] (fun v => v = .int .i64 0) (fun _ => 0)
  case atStart => exact rfl
  case round =>
    subst hrel
    go_wp2
    go_end0
    exact ⟨rfl, rfl⟩
theorem lookNode_calls (K : Nat) (w : World) (h : w.cell? ⟨K, 7, none⟩ = some (.slice none 0 0)) :
    Calls Tryd.prog 50 #[.pointer (some ⟨K, 0, none⟩)] w fun e w' => e = .returned (.bool true) ∧ w = w' := by
  go_enter Tryd.func50, Tryd.ntmps50
  go_wp2
  go_loop [3] (fun v => v = .int .i64 0) (fun _ => 0)
  case atStart => exact rfl
  case round =>
    subst hrel
    go_wp2
    go_ret
    exact ⟨rfl, rfl⟩

theorem markByte_calls (n : Int) (w : World) (h0 : 0 ≤ n) (h1 : n ≤ 100) :
    Calls Tryd.prog 69 #[.int .i64 n] w fun e w' => e = .returned (.int .u8 (1 + n)) ∧ w = w' := by
  have c1 : n % 250 = n := by omega
  have C1 := Aside0.mk c1
  go_enter Tryd.func69, Tryd.ntmps69
  go_wp2
  go_ret
  exact ⟨by first | rfl | (have := C1.out; congr 2; omega), rfl⟩
theorem isByte_calls (x n : Int) (w : World) (h0 : 0 ≤ n) (h1 : n ≤ 100) (hx : x = 1 + n) :
    Calls Tryd.prog 76 #[.int .u8 x, .int .i64 n] w fun e w' => e = .returned (.bool true) ∧ w = w' := by
  have c1 : n % 250 = n := by omega
  have C2 : (x == 1 + n) = true := by simp [hx]
  clear hx
  go_enter Tryd.func76, Tryd.ntmps76
  go_wp2
  go_ret
  exact ⟨by first | rfl | simp_all, rfl⟩
theorem infoHByte : (Tryd.prog.info? 81).map (fun i => (i.zero, i.size, i.bytes)) = some (some (.agg #[.slice none 0 0, .slice none 0 0, .int .i64 0]), 3, 56) := by kernel_rfl
theorem TK.row {T : TypeId → Prop} {w w1 : World} {base size n : Nat} {e : TypeId} {v : Value} {xs : List Value} (hk : TK T w w1) (h : w.ownsRow base e size v n xs) (ht : ¬ T e) : w1.ownsRow base e size v n xs :=
  own_move h (fun k hb => by obtain ⟨c, hc⟩ := own_typed h k hb; exact hk.block k c e (0, 0) hc ht)
theorem TK.blk {T : TypeId → Prop} {w w1 : World} {K : Nat} {nn : Int} {vB vN : Value} (hk : TK T w w1) (h : BkBlk w K nn vB vN) (ht : ¬ T 44) : BkBlk w1 K nn vB vN :=
  (hk.block K _ _ _ h ht).trans h
/-- A row of the call's own is written: what is of other types is kept. -/
theorem TK.grown {T : TypeId → Prop} {w w1 : World} {base size n : Nat} {e : TypeId} {v : Value} {xs : List Value} (h : w.ownsRow base e size v n xs) (hg : w.grownBy w1 v.ownBlock) (ht : T e) : TK T w w1 := by
  refine ⟨hg.os, hg.tape, hg.output, hg.size, fun k c t fr hk hn => hg.block k (Array.getElem?_eq_some_iff.1 hk).1 (fun e => ?_)⟩
  obtain ⟨c2, hc2⟩ := own_typed h k e.symm
  rw [hc2] at hk; injection hk with hk; injection hk with _ h2 _; subst h2; exact hn ht

set_option maxHeartbeats 4000000 in
set_option maxRecDepth 100000 in
theorem keepByte_calls (B K : Nat) (nn : Int) (vB vN : Value) (m : Nat) (es : List Ent) (la : Option Addr) (ln lc : Nat) (w : World) (hk : BkBlk w K nn vB vN) (hr : w.ownsRow B 81 3 vB m (eCells (es.take m))) (hm : m < es.length)
    (hl : es[m].l = .slice la ln lc) (hlg : es[m].lg = .slice none 0 0) (hn : es[m].n = nn + 1) (h0 : 0 ≤ nn) (h1 : nn ≤ 100) (hm1 : m ≤ 100) (hB : B ≤ K) :
    Calls Tryd.prog 29 #[.pointer (some ⟨K, 0, none⟩), .slice la ln lc] w fun e w' => e = .returned (.tuple #[]) ∧ ∃ vX, BkBlk w' K (nn + 1) vX vN ∧ w'.ownsRow B 81 3 vX (m + 1) (eCells (es.take (m + 1))) ∧ TK (fun t => t = 44 ∨ t = 81) w w' ∧ Below B w w' := by
  have HK := Aside0.mk hk
  have HK1 := Aside0.mk (hk.set0 (nn + 1))
  have HR := Aside0.mk hr
  have c0 := hk.c0
  have c1 := hk.c1
  have f0 := hk.fz 0
  have f1 := hk.fz 1
  have HE := Aside0.mk (show eCells (es.take (m + 1)) = eCells (es.take m) ++ [.slice la ln lc, .slice none 0 0, .int .i64 (nn + 1)] by
    rw [List.take_succ_eq_append_getElem hm, eCells_append]
    congr 1
    show es[m].cells ++ [] = _
    rw [List.append_nil]
    unfold Ent.cells
    rw [hl, hlg, hn])
  obtain ⟨w1, hw1⟩ : ∃ w1, w.setCell ⟨K, 0, none⟩ (.int .i64 (nn + 1)) = w1 := ⟨_, rfl⟩
  have hne : vB.ownBlock = none ∨ vB.ownBlock ≠ some K := by
    rcases hr.2 with ⟨h, _⟩ | ⟨g, cap, cur, h, _, hg, _⟩
    · rw [h]; exact .inl rfl
    · refine .inr (fun e => ?_)
      rw [h] at e
      have : g = K := by simpa [Value.ownBlock] using e
      subst this
      rw [show w.heap[g]? = _ from hk] at hg
      injection hg with hg; injection hg with _ h2 _
      exact absurd h2 (by decide)
  have hg1 : w.grownBy w1 (some K) := hw1 ▸ grownBy_setCell' w K _
  have HR1 := Aside0.mk (own_other hr hg1 hne)
  have HB1 := Aside0.mk (show Below B w w1 from hw1 ▸ (Below.refl B w).setCell (p := ⟨K, 0, none⟩) hB _)
  have HT1 := Aside0.mk (show TK (fun t => t = 44 ∨ t = 81) w w1 from hw1 ▸ TK.setCell hk (.inl rfl))
  have HW := Aside0.mk hw1
  have HK2 : Aside0 (BkBlk w1 K (nn + 1) vB vN) := ⟨hw1 ▸ HK1.out⟩
  have hkl := hk.lt
  have hsz : w1.heap.size = w.heap.size := by rw [← hw1]; simp
  have HSZ := Aside0.mk hsz
  clear hk hr hl hlg hn hw1 hne hg1 hsz
  go_enter Tryd.func29, Tryd.ntmps29
  go_wp2_with fail
  rw [HW.out]
  have d0 := HK2.out.c0
  have d1 := HK2.out.c1
  have e0 := HK2.out.fz 0
  have e1 := HK2.out.fz 1
  have hk1 : K < w1.heap.size := HK2.out.lt
  obtain ⟨ti, hi, hz0, hz1, hz2⟩ : ∃ i, Tryd.prog.info? 81 = some i ∧ i.zero = some (.agg #[.slice none 0 0, .slice none 0 0, .int .i64 0]) ∧ i.size = 3 ∧ i.bytes = 56 := by
    obtain ⟨i, hi, h2⟩ := Option.map_eq_some_iff.1 infoHByte
    simp only [Prod.mk.injEq] at h2
    exact ⟨i, hi, h2⟩
  have HI := Aside0.mk (And.intro hi (And.intro hz0 (And.intro hz1 hz2)))
  have HONE := Aside0.mk (show ∀ u ∈ [Value.slice la ln lc, .slice none 0 0, Value.int .i64 (nn + 1)], u.oneCell' = true by
    intro u hu
    rcases List.mem_cons.1 hu with rfl | hu
    · rfl
    · rcases List.mem_cons.1 hu with rfl | hu
      · rfl
      · rw [List.mem_singleton.1 hu]; rfl)
  have HBS := Aside0.mk (show B ≤ w1.heap.size by have := HSZ.out; omega)
  have HRA := Aside0.mk (show (w1.drew.alloc (.cells #[.slice la ln lc, .slice none 0 0, .int .i64 (nn + 1)] 81)).ownsRow B 81 3 vB m (eCells (es.take m)) from World.ownsRow.alloc (w := w1.drew) HR1.out _)
  have HNE := Aside0.mk (show some K ≠ vB.ownBlock by
    intro e
    rcases HR1.out.2 with ⟨h, _⟩ | ⟨g, cap, cur, h, _, hg, _⟩
    · rw [h] at e; cases e
    · rw [h] at e
      have : K = g := by simpa [Value.ownBlock] using e
      subst this
      rw [show w1.heap[K]? = _ from HK2.out] at hg
      injection hg with hg; injection hg with _ h2 _
      exact absurd h2 (by decide))
  clear hi hz0 hz1 hz2
  go_region_law (first | (refine step_append_lies _ (by rfl) _ _ _ (by rfl) B 81 ti _ 3 56 Tryd.underlying36 HI.out.1 HI.out.2.1 HI.out.2.2.1 HI.out.2.2.2 rfl (by decide) vB m (eCells (es.take m)) (by rfl) HRA.out ⟨w1.heap.size, 0, none⟩ 1 1 [.slice la ln lc, .slice none 0 0, .int .i64 (nn + 1)] (by rfl) rfl (World.news_of_block (heap_alloc_new w1.drew _)) HONE.out (by decide) (by simp [maxLen]; omega) (by omega) (by have := HBS.out; simp; omega) _ rfl ?_; intro g cap w2 hown1 hgrow hat hlt; have HK3 := Aside0.mk (show BkBlk w2 K (nn + 1) vB vN from (hgrow.block K (by have := HK2.out.lt; simp; omega) HNE.out).trans ((heap_alloc_old w1.drew _ K HK2.out.lt).trans HK2.out)); have q1 := HK3.out.c1; have q2 := HK3.out.fz 1) | (fail))
  all_goals
    go_wp2
    go_end0
    have hb2 : Below B w1 w2 := (Below.alloc (Below.drew (Below.refl B w1)) HBS.out _).grown hgrow (by have := HBS.out; simp; omega) (fun k hk => own_base HR1.out k hk)
    have ht2 : TK (fun t => t = 44 ∨ t = 81) w1 w2 := by
      have hw : w1.grownBy w2 vB.ownBlock := ⟨hgrow.os, hgrow.tape, hgrow.output, Nat.le_trans (by simp) hgrow.size, fun k hk hne => (hgrow.block k (by simp; omega) hne).trans (heap_alloc_old w1.drew _ k hk)⟩
      exact TK.grown HR1.out hw (.inr rfl)
    refine ⟨rfl, _, (HK3.out.set1 _), ?_, ?_, ?_⟩
    · rw [HE.out]
      refine own_other hown1 (grownBy_setCellO w2 K _ _) (.inr (fun e => ?_))
      obtain ⟨c2, hc2⟩ := own_typed hown1 K e
      rw [show w2.heap[K]? = _ from HK3.out] at hc2
      injection hc2 with hc2; injection hc2 with _ h2 _
      exact absurd h2 (by decide)
    · exact (HT1.out.trans ht2).trans (TK.setCell HK3.out (.inl rfl))
    · exact (HB1.out.trans hb2).setCell (p := ⟨K, 1, none⟩) hB _

/-- The rows of a book's lists, and what they hold. -/
def RwsByte (B : Nat) (w : World) (es : List Ent) (X : Nat → List Int) : Prop := ∀ (j : Nat) (h : j < es.length), w.ownsRow B 5 1 es[j].l es[j].len (nums .u8 (X j))
def FarByte (es : List Ent) : Prop := ∀ (i j : Nat) (hi : i < es.length) (hj : j < es.length), i ≠ j → es[j].l.ownBlock = none ∨ es[j].l.ownBlock ≠ es[i].l.ownBlock
def markedByte (es : List Ent) (j : Nat) : List Int := match es[j]? with | some e => List.replicate e.len (1 + e.n) | none => []
theorem eAtByte {w : World} {B g cap : Nat} {es : List Ent} (h : w.ownsRow B 81 3 (.slice (some ⟨g, 0, none⟩) es.length cap) es.length (eCells es)) (i : Nat) (hi : i < es.length) :
    w.cell? ⟨g, i * 3, none⟩ = some es[i].l ∧ w.cell? ⟨g, i * 3 + 1, none⟩ = some es[i].lg ∧ w.cell? ⟨g, i * 3 + 2, none⟩ = some (.int .i64 es[i].n) := by
  have h0 := h.cells (g := g) rfl (i * 3 + 0) es[i].l (by rw [eCells_at es i 0 hi (by omega)]; rfl)
  have h1 := h.cells (g := g) rfl (i * 3 + 1) es[i].lg (by rw [eCells_at es i 1 hi (by omega)]; rfl)
  have h2 := h.cells (g := g) rfl (i * 3 + 2) (.int .i64 es[i].n) (by rw [eCells_at es i 2 hi (by omega)]; rfl)
  rw [add_plain] at h0 h1 h2
  exact ⟨h0, h1, h2⟩
theorem RwsByte.store {B : Nat} {w : World} {es : List Ent} {X : Nat → List Int} (h : RwsByte B w es X) (hf : FarByte es) (i : Nat) (hi : i < es.length) {g cap : Nat} (hl : es[i].l = .slice (some ⟨g, 0, none⟩) es[i].len cap) (k : Nat) (x : Int) :
    RwsByte B (w.setCell ⟨g, k, none⟩ (.int .u8 x)) es (fun j => if j = i then (X i).set k x else X j) := by
  intro j hj
  dsimp only
  by_cases e : j = i
  · subst e
    have h1 := h j hj
    rw [hl] at h1 ⊢
    rw [if_pos rfl]
    have := (own_store h1 (k : Int) x).1
    rwa [Int.toNat_natCast] at this
  · rw [if_neg e]
    refine own_other (h j hj) (grownBy_setCellO w g k _) ?_
    have := hf i j hi hj (Ne.symm e)
    rw [hl] at this
    exact this
theorem RwsByte.kept {B : Nat} {w w1 : World} {es : List Ent} {X : Nat → List Int} (h : RwsByte B w es X) (hb : Below w.heap.size w w1) : RwsByte B w1 es X :=
  fun j hj => pw_own_below (h j hj) hb
theorem RwsByte.congr {B : Nat} {w : World} {es : List Ent} {X Y : Nat → List Int} (h : RwsByte B w es X) (he : ∀ j, j < es.length → X j = Y j) : RwsByte B w es Y :=
  fun j hj => by rw [← he j hj]; exact h j hj

theorem fill_step (k len : Nat) (m : Int) (xs : List Int) (h : (List.replicate k m ++ xs.drop k).length = len) (hk : k < len) :
    (List.replicate k m ++ xs.drop k).set k m = List.replicate (k + 1) m ++ xs.drop (k + 1) := by
  rw [List.length_append, List.length_replicate, List.length_drop] at h
  rw [List.set_append_right (h := by simp), List.length_replicate, Nat.sub_self, List.drop_eq_getElem_cons (by omega), List.set_cons_zero, List.replicate_succ', List.append_assoc]
  rfl
set_option maxHeartbeats 8000000 in
set_option maxRecDepth 100000 in
theorem fillByte_calls (B K : Nat) (nn : Int) (vB vN : Value) (es : List Ent) (X : Nat → List Int) (w : World) (hk : BkBlk w K nn vB vN) (hr : w.ownsRow B 81 3 vB es.length (eCells es)) (hrows : RwsByte B w es X) (hfar : FarByte es)
    (hnum : ∀ (j : Nat) (h : j < es.length), 0 ≤ es[j].n ∧ es[j].n ≤ 100 ∧ es[j].len ≤ 100000000) (hes : es.length ≤ 100) (hB : B ≤ w.heap.size) :
    Calls Tryd.prog 30 #[.pointer (some ⟨K, 0, none⟩)] w fun e w' => e = .returned (.tuple #[]) ∧ TK (fun t => t = 5) w w' ∧ Below B w w' ∧ RwsByte B w' es (markedByte es) := by
  obtain ⟨A, c, rfl⟩ := own_slice hr
  have HK := Aside0.mk hk
  have HR := Aside0.mk hr
  have HF := Aside0.mk hfar
  have HN := Aside0.mk hnum
  have HROWS := Aside0.mk hrows
  clear hk hr hfar hnum hrows
  go_enter Tryd.func30, Tryd.ntmps30
  go_wp2
  go_loopw [2] (fun v2 wr => ∃ i : Nat, i ≤ es.length ∧ v2 = .int .i64 i ∧ Aside0 (TK (fun t => t = 5) w wr) ∧ Aside0 (Below B w wr) ∧ Aside0 (RwsByte B wr es (fun j => if j < i then markedByte es j else X j))) (fun v2 _ => es.length - (intOf v2).toNat)
  case atStart => exact ⟨0, Nat.zero_le _, rfl, ⟨TK.refl _ _⟩, ⟨Below.refl _ _⟩, ⟨HROWS.out.congr (fun j _ => by rw [if_neg (by omega)])⟩⟩
  case round =>
    obtain ⟨i, hi, rfl, HT, HB, HX⟩ := hrel
    have hk1 := HT.out.blk HK.out (by decide)
    have c1 := hk1.c1
    clear hk1
    by_cases hlt : i < es.length
    · obtain ⟨g, cap, he, _, _⟩ := HR.out.form (by omega)
      injection he with he1 _ he2
      subst he1; subst he2
      have hrw := HT.out.row HR.out (by decide)
      obtain ⟨e0, e1, e2⟩ := eAtByte hrw i hlt
      obtain ⟨E, hE⟩ : ∃ E, es[i] = E := ⟨_, rfl⟩
      rw [hE] at e0 e1 e2
      obtain ⟨la, len, lc, ga, gn, gc, n⟩ := E
      have HE := Aside0.mk hE
      clear hrw hE
      dsimp only at e0 e1 e2
      go_wp2_with fail
      obtain ⟨wh, hwh⟩ : ∃ wh, wr.alloc (.cells #[.slice la len lc, .slice ga gn gc, .int .i64 n] 81) = wh := ⟨_, rfl⟩
      obtain ⟨Hb, hHb⟩ : ∃ Hb, wr.heap.size = Hb := ⟨_, rfl⟩
      have hbh : Below wr.heap.size wr wh := hwh ▸ below_alloc (Below.refl _ _) _
      have HH := Aside0.mk (show wh.heap[Hb]? = some (.cells #[.slice la len lc, .slice ga gn gc, .int .i64 n] 81 (0, 0)) from hHb ▸ hwh ▸ World.alloc_heap_new wr _)
      have HTh := Aside0.mk (HT.out.trans (TK.of_below hbh _))
      have HBh := Aside0.mk (below_then HB.out (Nat.le_trans hB HB.out.size) hbh)
      have HXh := Aside0.mk (HX.out.kept hbh)
      have HHB := Aside0.mk hHb
      have hnn := HN.out i hlt
      have HL : Aside0 (es[i].len = len) := ⟨by rw [HE.out]⟩
      rw [HE.out] at hnn
      obtain ⟨n0, n1, n2⟩ := hnn
      dsimp only at n0 n1 n2
      have HM := Aside0.mk (show markedByte es i = List.replicate len (1 + n) by unfold markedByte; rw [List.getElem?_eq_getElem hlt, HE.out])
      rw [hwh, hHb]
      clear hbh hwh hHb e0 e1 e2 c1 HT HB HX
      go_loopw [4] (fun v4 wr => ∃ k : Nat, k ≤ len ∧ v4 = .int .i64 k ∧ Aside0 (TK (fun t => t = 5) w wr) ∧ Aside0 (Below B w wr) ∧ Aside0 (RwsByte B wr es (fun j => if j < i then markedByte es j else if j = i then List.replicate k (1 + n) ++ (X i).drop k else X j)) ∧ Aside0 (wr.heap[Hb]? = some (.cells #[.slice la len lc, .slice ga gn gc, .int .i64 n] 81 (0, 0)))) (fun v4 _ => len - (intOf v4).toNat)
      case atStart => exact ⟨0, Nat.zero_le _, rfl, HTh, HBh, ⟨HXh.out.congr (fun j _ => by
        by_cases h1 : j < i
        · rw [if_pos h1, if_pos h1]
        · rw [if_neg h1, if_neg h1]
          by_cases h2 : j = i
          · rw [if_pos h2, h2]; rfl
          · rw [if_neg h2])⟩, HH⟩
      case round =>
        clear HTh HBh HXh HH
        obtain ⟨k, hk, rfl, HT, HB, HX, HH⟩ := hrel
        have x0 : wr.cell? ⟨Hb, 0, none⟩ = some (.slice la len lc) := by simp [World.cell?, HH.out]
        have x2 : wr.cell? ⟨Hb, 2, none⟩ = some (.int .i64 n) := by simp [World.cell?, HH.out]
        by_cases hkl : k < len
        · have hrow := HX.out i hlt
          dsimp only at hrow
          rw [if_neg (by omega), if_pos rfl, HE.out] at hrow
          obtain ⟨g2, cap2, he2, hb2, _⟩ := hrow.form (by dsimp only; omega)
          injection he2 with he3 _ he4
          subst he3; subst he4
          have hat := own_at hrow (k : Int) (by omega) (by dsimp only; omega)
          rw [Int.toNat_natCast] at hat
          obtain ⟨y0, y1⟩ := hat
          have HLX := Aside0.mk (show (List.replicate k (1 + n) ++ (X i).drop k).length = len by have := hrow.1; rw [nums_length] at this; simpa using this)
          have HS := Aside0.mk (HX.out.store HF.out i hlt (g := g2) (cap := lc) (by rw [HE.out]) k (1 + n))
          have HBT := Aside0.mk (own_typed hrow g2 rfl)
          have HNB := Aside0.mk (show Hb ≠ g2 by
            intro e
            subst e
            obtain ⟨c2, hc2⟩ := own_typed hrow Hb rfl
            rw [HH.out] at hc2
            injection hc2 with hc2; injection hc2 with _ h2 _
            exact absurd h2 (by decide))
          have HB2 := Aside0.mk hb2
          clear hrow hb2
          go_wp2_with fail
          go_region_with (go_at_call 69; refine (markByte_calls n _ n0 n1).mono ?_; rintro e w' ⟨rfl, rfl⟩)
          all_goals
            go_wp2
            go_roundw
            case rel =>
              refine ⟨k + 1, by omega, by go_num, ⟨(HT.out.trans (TK.of_below (Below.drew (Below.refl _ _)) _)).trans (TK.setCell (HBT.out).choose_spec rfl)⟩, ⟨(Below.drew HB.out).setCell (p := ⟨g2, k, none⟩) HB2.out _⟩, ⟨?_⟩, ⟨?_⟩⟩
              · have h1 := HS.out
                refine RwsByte.congr (fun j hj => h1 j hj) (fun j hj => ?_)
                try dsimp only
                by_cases h2 : j = i
                · subst h2
                  simp only [Nat.lt_irrefl, if_true, if_false]
                  exact fill_step k len _ (X j) HLX.out hkl
                · rw [if_neg h2]
                  by_cases h3 : j < i
                  · rw [if_pos h3, if_pos h3]
                  · rw [if_neg h3, if_neg h3, if_neg h2, if_neg h2]
              · exact (Below.heap_setCell _ ⟨g2, k, none⟩ _ Hb HNB.out).trans HH.out
            case measure => simp [intOf]; omega
        · obtain rfl : k = len := by omega
          go_wp2
          go_roundw
          case rel =>
            refine ⟨i + 1, by omega, by go_num, HT, HB, ⟨HX.out.congr (fun j hj => ?_)⟩⟩
            try dsimp only
            by_cases h2 : j = i
            · subst h2
              rw [if_neg (by omega), if_pos rfl, if_pos (by omega), HM.out]
              have h3 := (HX.out j hj).1
              dsimp only at h3
              rw [if_neg (by omega), if_pos rfl, nums_length, List.length_append, List.length_replicate, List.length_drop, HL.out, Nat.mul_one] at h3
              rw [List.drop_eq_nil_of_le (by omega), List.append_nil]
            · by_cases h3 : j < i
              · rw [if_pos h3, if_pos (by omega)]
              · rw [if_neg h3, if_neg h2, if_neg (by omega)]
          case measure => simp [intOf]; omega
    · obtain rfl : i = es.length := by omega
      go_wp2
      go_end0
      exact ⟨rfl, HT.out, HB.out, HX.out.congr (fun j hj => by rw [if_pos hj])⟩

theorem readsByte_kept {w w1 : World} {A : Option Addr} {n : Nat} {xs : List Int} (h : ReadsInt w .u8 A n xs) (hb : ∀ ad, A = some ad → 0 < n → w1.heap[ad.block]? = w.heap[ad.block]?) : ReadsInt w1 .u8 A n xs :=
  ⟨h.1, h.2.1, fun hn => by
    obtain ⟨ad, e, hc⟩ := h.2.2 hn
    refine ⟨ad, e, fun j hj => ?_⟩
    have h1 := hc j hj
    have h2 : (ad.add j).block = ad.block := by unfold Addr.add; split <;> rfl
    rw [World.cell?_of_block (a := ad.add j) (w := w) (by rw [h2]; exact hb ad e hn)]
    exact h1⟩
/-- A list that grows: what it is, and what it was made of is still read. -/
structure GrByte (B : Nat) (w0 w : World) (la : Option Addr) (len lc : Nat) (m : Int) (A : Option Addr) (n c : Nat) : Prop where
  own : w.ownsRow B 5 1 (.slice A n c) n (nums .u8 (List.replicate n m))
  old : w0.ownsRow B 5 1 (.slice la len lc) len (nums .u8 (List.replicate len m))
  rd : ReadsInt w .u8 la len (List.replicate len m)
  kept : ∀ k, k < w0.heap.size → some k ≠ (Value.slice la len lc).ownBlock → w.heap[k]? = w0.heap[k]?
  bel : Below B w0 w
  at_ : (Value.slice A n c).ownBlock = (Value.slice la len lc).ownBlock ∨ ∃ b, w0.heap.size ≤ b ∧ (Value.slice A n c).ownBlock = some b
  le : len ≤ n
  ty : ∀ ad, la = some ad → ∃ c, w.heap[ad.block]? = some (.cells c 5 (0, 0))
theorem GrByte.start {B : Nat} {w0 : World} {la : Option Addr} {len lc : Nat} {m : Int} (h : w0.ownsRow B 5 1 (.slice la len lc) len (nums .u8 (List.replicate len m))) : GrByte B w0 w0 la len lc m la len lc := by
  obtain ⟨A, c, he, hr⟩ := own_reads h
  injection he with h1 _ h2
  subst h1
  exact ⟨h, h, hr, fun _ _ _ => rfl, Below.refl _ _, .inl rfl, Nat.le_refl _, fun ad e => own_typed h ad.block (by rw [e]; rfl)⟩
theorem GrByte.step {B : Nat} {w0 w w1 : World} {la A : Option Addr} {len lc n c : Nat} {m : Int} (h : GrByte B w0 w la len lc m A n c) (hb : Below w.heap.size w w1) (hB : B ≤ w.heap.size) : GrByte B w0 w1 la len lc m A n c := by
  refine ⟨pw_own_below h.own hb, h.old, h.rd.below hb, fun k hk hn => ?_, below_then h.bel hB hb, h.at_, h.le, fun ad e => by
    obtain ⟨c2, hc2⟩ := h.ty ad e
    exact ⟨c2, (hb.block _ (Array.getElem?_eq_some_iff.1 hc2).1).trans hc2⟩⟩
  exact (hb.block k (Nat.lt_of_lt_of_le hk h.bel.size)).trans (h.kept k hk hn)
theorem GrByte.room {B g : Nat} {w0 w w1 : World} {la : Option Addr} {len lc n c : Nat} {m : Int} (h : GrByte B w0 w la len lc m (some ⟨g, 0, none⟩) n c)
    (ho : w1.ownsRow B 5 1 (.slice (some ⟨g, 0, none⟩) (n + 1) c) (n + 1) (nums .u8 (List.replicate n m) ++ [.int .u8 m])) (hg : w.grownBy w1 (some g)) (hB : B ≤ w.heap.size) : GrByte B w0 w1 la len lc m (some ⟨g, 0, none⟩) (n + 1) c := by
  have ho2 : w1.ownsRow B 5 1 (.slice (some ⟨g, 0, none⟩) (n + 1) c) (n + 1) (nums .u8 (List.replicate (n + 1) m)) := by
    rw [List.replicate_succ', nums_append]; exact ho
  have hgB : B ≤ g := own_base ho g rfl
  refine ⟨ho2, h.old, ?_, fun k hk hn => ?_, h.bel.grown hg hB (fun k hk => by injection hk with hk; omega), h.at_, Nat.le_succ_of_le h.le, fun ad e => ?_⟩
  · by_cases hs : (Value.slice la len lc).ownBlock = some g
    · have ht := own_take (m := len) ho2 (Nat.le_succ_of_le h.le)
      have hx : (nums .u8 (List.replicate (n + 1) m)).take (len * 1) = nums .u8 (List.replicate len m) := by
        unfold nums
        rw [Nat.mul_one, ← List.map_take, List.take_replicate, Nat.min_eq_left (Nat.le_succ_of_le h.le)]
      rw [hx] at ht
      obtain ⟨A', c', he, hr⟩ := own_reads ht
      injection he with h1 _ h2
      subst h1
      have hla : la = some ⟨g, 0, none⟩ ∨ la = none := by
        rcases h.old.2 with ⟨e, _⟩ | ⟨g', cap', cur', e, _⟩
        · injection e with e _ _; exact .inr e
        · injection e with e _ _
          subst e
          have : g' = g := by simpa [Value.ownBlock] using hs
          subst this; exact .inl rfl
      rcases hla with rfl | rfl
      · exact hr
      · simp [Value.ownBlock] at hs
    · refine readsByte_kept h.rd (fun ad e hn => hg.block ad.block ?_ ?_)
      · have := h.bel.size
        have h3 := own_lt h.old ad.block (by rw [e]; rfl)
        omega
      · intro e2
        rw [e] at hs
        exact hs e2
  · by_cases hs : some k = some g
    · rcases h.at_ with e | ⟨b, hb, e⟩
      · exact absurd (hs.trans e) hn
      · have : g = b := by simpa [Value.ownBlock] using e
        injection hs with hs
        omega
    · exact (hg.block k (Nat.lt_of_lt_of_le hk h.bel.size) hs).trans (h.kept k hk hn)
  · obtain ⟨c2, hc2⟩ := h.ty ad e
    by_cases hs : some ad.block = some g
    · exact own_typed ho ad.block hs.symm
    · exact ⟨c2, (hg.block _ (Array.getElem?_eq_some_iff.1 hc2).1 hs).trans hc2⟩
theorem GrByte.new {B : Nat} {w0 w w1 : World} {la A : Option Addr} {len lc n c : Nat} {m : Int} (h : GrByte B w0 w la len lc m A n c) {v : Value}
    (ho : w1.ownsRow w.heap.size 5 1 v (n + 1) (nums .u8 (List.replicate n m) ++ [.int .u8 m])) (hg : w.grownBy w1 none) (hB : B ≤ w.heap.size) : ∃ A1 c1, v = .slice A1 (n + 1) c1 ∧ GrByte B w0 w1 la len lc m A1 (n + 1) c1 := by
  obtain ⟨g, cap, rfl, hgb, _⟩ := ho.form (by omega)
  have ho2 : w1.ownsRow w.heap.size 5 1 (.slice (some ⟨g, 0, none⟩) (n + 1) cap) (n + 1) (nums .u8 (List.replicate (n + 1) m)) := by
    rw [List.replicate_succ', nums_append]; exact ho
  have hb : Below w.heap.size w w1 := Below.grown (Below.refl _ w) hg (Nat.le_refl _) (fun _ hk => by cases hk)
  have h2 := h.step hb hB
  exact ⟨_, _, rfl, World.ownsRow.mono ho2 hB, h.old, h2.rd, h2.kept, h2.bel, .inr ⟨g, Nat.le_trans h.bel.size hgb, rfl⟩, Nat.le_succ_of_le h.le, h2.ty⟩
theorem GrByte.tk {B : Nat} {w0 w : World} {la A : Option Addr} {len lc n c : Nat} {m : Int} (h : GrByte B w0 w la len lc m A n c) : TK (fun t => t = 5) w0 w :=
  ⟨h.bel.os, h.bel.tape, h.bel.output, h.bel.size, fun k c t fr hk hn => h.kept k (Array.getElem?_eq_some_iff.1 hk).1 (fun e => by
    obtain ⟨c2, hc2⟩ := own_typed h.old k e.symm
    rw [hc2] at hk; injection hk with hk; injection hk with _ h2 _; exact hn h2.symm)⟩

/-- Both lists of an entry are read. -/
structure LkByte (w : World) (e : Ent) : Prop where
  gn : e.gn = e.len + 40
  r1 : ReadsInt w .u8 e.la e.len (List.replicate e.len (1 + e.n))
  r2 : ReadsInt w .u8 e.ga e.gn (List.replicate e.gn (1 + e.n))
  t1 : ∀ ad, e.la = some ad → ∃ c, w.heap[ad.block]? = some (.cells c 5 (0, 0))
  t2 : ∀ ad, e.ga = some ad → ∃ c, w.heap[ad.block]? = some (.cells c 5 (0, 0))
theorem LkByte.kept {w w1 : World} {e : Ent} (h : LkByte w e) (h1 : ∀ ad, e.la = some ad → w1.heap[ad.block]? = w.heap[ad.block]?) (h2 : ∀ ad, e.ga = some ad → w1.heap[ad.block]? = w.heap[ad.block]?) : LkByte w1 e :=
  ⟨h.gn, readsByte_kept h.r1 (fun ad e _ => h1 ad e), readsByte_kept h.r2 (fun ad e _ => h2 ad e), fun ad e => by
    obtain ⟨c, hc⟩ := h.t1 ad e; exact ⟨c, (h1 ad e).trans hc⟩, fun ad e => by
    obtain ⟨c, hc⟩ := h.t2 ad e; exact ⟨c, (h2 ad e).trans hc⟩⟩
theorem LkByte.tk {T : TypeId → Prop} {w w1 : World} {e : Ent} (h : LkByte w e) (hk : TK T w w1) (ht : ¬ T 5) : LkByte w1 e :=
  h.kept (fun ad e => by obtain ⟨c, hc⟩ := h.t1 ad e; exact hk.block _ c 5 (0, 0) hc ht) (fun ad e => by obtain ⟨c, hc⟩ := h.t2 ad e; exact hk.block _ c 5 (0, 0) hc ht)
theorem GrByte.lk {B : Nat} {w0 w : World} {la A : Option Addr} {len lc n c : Nat} {x : Int} (h : GrByte B w0 w la len lc (1 + x) A n c) (hn : n = len + 40) : LkByte w ⟨la, len, lc, A, n, c, x⟩ := by
  obtain ⟨A', c', he, hr⟩ := own_reads h.own
  injection he with h1 _ h2
  subst h1
  exact ⟨hn, h.rd, hr, h.ty, fun ad e => own_typed h.own ad.block (by rw [show A = some ad from e]; rfl)⟩

theorem infoEByte : (Tryd.prog.info? 5).map (fun i => (i.zero, i.size, i.bytes)) = some (some (.int .u8 0), 1, 1) := by kernel_rfl
/-- How far a book's lists have grown. -/
structure GsByte (B : Nat) (w0 wr : World) (VX : Value) (es fs : List Ent) (i : Nat) : Prop where
  len : fs.length = es.length
  same : ∀ (j : Nat) (h : j < es.length) (h' : j < fs.length), fs[j].la = es[j].la ∧ fs[j].len = es[j].len ∧ fs[j].lc = es[j].lc ∧ fs[j].n = es[j].n
  later : ∀ (j : Nat) (h : j < es.length) (h' : j < fs.length), i ≤ j → fs[j] = es[j]
  row : wr.ownsRow B 81 3 VX es.length (eCells fs)
  done : ∀ (j : Nat) (h : j < fs.length), j < i → LkByte wr fs[j] ∧ ((Value.slice fs[j].ga fs[j].gn fs[j].gc).ownBlock = (Value.slice fs[j].la fs[j].len fs[j].lc).ownBlock ∨ ∃ b, w0.heap.size ≤ b ∧ (Value.slice fs[j].ga fs[j].gn fs[j].gc).ownBlock = some b)
  open_ : ∀ (j : Nat) (h : j < es.length), i ≤ j → wr.ownsRow B 5 1 es[j].l es[j].len (nums .u8 (markedByte es j))
  first : ∀ (j : Nat) (h : j < es.length) (b : Nat), es[j].l.ownBlock = some b → b < w0.heap.size
  tk : TK (fun t => t = 5 ∨ t = 81) w0 wr
  bel : Below B w0 wr
theorem GsByte.step {B : Nat} {w0 wr w1 : World} {VX : Value} {es fs : List Ent} {i : Nat} (h : GsByte B w0 wr VX es fs i) (hb : Below wr.heap.size wr w1) (hB : B ≤ wr.heap.size) : GsByte B w0 w1 VX es fs i :=
  ⟨h.len, h.same, h.later, pw_own_below h.row hb, fun j hj hi => ⟨(h.done j hj hi).1.tk (TK.of_below hb (fun _ => False)) (fun h => h), (h.done j hj hi).2⟩, fun j hj hi => pw_own_below (h.open_ j hj hi) hb, h.first, h.tk.trans (TK.of_below hb _), below_then h.bel hB hb⟩
theorem GsByte.next {B : Nat} {w0 wh wr : World} {g cap : Nat} {es fs : List Ent} {i : Nat} {A : Option Addr} {n c : Nat} (h : GsByte B w0 wh (.slice (some ⟨g, 0, none⟩) es.length cap) es fs i) (hf : FarByte es) (hi : i < es.length)
    (hg : GrByte B wh wr es[i].la es[i].len es[i].lc (1 + es[i].n) A n c) (hn : n = es[i].len + 40) (hB : B ≤ wh.heap.size) :
    GsByte B w0 (wr.setCell ⟨g, i * 3 + 1, none⟩ (.slice A n c)) (.slice (some ⟨g, 0, none⟩) es.length cap) es (fs.set i (es[i].lgTo A n c)) (i + 1) := by
  have hif : i < fs.length := by rw [h.len]; exact hi
  have hfi := h.later i hi hif (Nat.le_refl _)
  have hrow := (hg.tk).row h.row (by decide)
  have hst := hrow.stored (i * 3 + 1) (.slice A n c)
  obtain ⟨cg, hcg⟩ := own_typed hrow g rfl
  have hkeep : ∀ k c' t fr, wr.heap[k]? = some (Obj.cells c' t fr) → t ≠ 81 → (wr.setCell ⟨g, i * 3 + 1, none⟩ (.slice A n c)).heap[k]? = wr.heap[k]? := fun k c' t fr hk ht => Below.heap_setCell _ _ _ _ (fun e => by
    have e : k = g := e
    subst e; rw [hcg] at hk; injection hk with hk; injection hk with _ h2 _; exact ht h2.symm)
  have htk2 : TK (fun t => t = 81) wr (wr.setCell ⟨g, i * 3 + 1, none⟩ (.slice A n c)) := TK.setCell hcg rfl
  have hbg : B ≤ g := own_base hrow g rfl
  refine ⟨by rw [List.length_set]; exact h.len, fun j hj hj' => ?_, fun j hj hj' hij => ?_, ?_, fun j hj hji => ?_, fun j hj hij => ?_, h.first, (h.tk.trans (hg.tk.mono (fun t ht => .inl ht))).trans (htk2.mono (fun t ht => .inr ht)), ((h.bel.trans hg.bel).setCell (p := ⟨g, i * 3 + 1, none⟩) hbg _)⟩
  · by_cases e : i = j
    · subst e; rw [List.getElem_set_self]; exact ⟨rfl, rfl, rfl, rfl⟩
    · rw [List.getElem_set_ne e]; exact h.same j hj (by rw [h.len]; exact hj)
  · rw [List.getElem_set_ne (by omega)]; exact h.later j hj (by rw [h.len]; exact hj) (by omega)
  · have e := eCells_set fs i hif A n c
    rw [hfi] at e
    rw [← e]; exact hst.1
  · rw [List.length_set] at hj
    by_cases e : i = j
    · subst e
      have hlk := hg.lk hn
      rw [List.getElem_set_self]
      refine ⟨(show LkByte wr (es[i].lgTo A n c) from hlk).tk htk2 (by decide), ?_⟩
      rcases hg.at_ with h1 | ⟨b, h1, h2⟩
      · exact .inl h1
      · exact .inr ⟨b, Nat.le_trans h.bel.size h1, h2⟩
    · rw [List.getElem_set_ne e]
      have hd := h.done j hj (by omega)
      have hjes : j < es.length := by rw [← h.len]; exact hj
      have hsm := h.same j hjes hj
      refine ⟨LkByte.tk (hd.1.kept (fun ad ea => ?_) (fun ad ea => ?_)) htk2 (by decide), hd.2⟩
      · obtain ⟨c0, hc0⟩ := hd.1.t1 ad ea
        refine hg.kept ad.block (Array.getElem?_eq_some_iff.1 hc0).1 (fun e2 => ?_)
        have := hf i j hi hjes e
        rw [show es[j].l = .slice fs[j].la fs[j].len fs[j].lc by rw [hsm.1, hsm.2.1, hsm.2.2.1], ea] at this
        rcases this with h1 | h1
        · cases h1
        · exact h1 e2
      · obtain ⟨c0, hc0⟩ := hd.1.t2 ad ea
        refine hg.kept ad.block (Array.getElem?_eq_some_iff.1 hc0).1 (fun e2 => ?_)
        rcases hd.2 with h1 | ⟨b, h1, h2⟩
        · have := hf i j hi hjes e
          rw [show es[j].l = .slice fs[j].la fs[j].len fs[j].lc by rw [hsm.1, hsm.2.1, hsm.2.2.1], ← h1, ea] at this
          rcases this with h3 | h3
          · cases h3
          · exact h3 e2
        · rw [ea] at h2
          have hb : ad.block = b := by simpa [Value.ownBlock] using h2
          have := h.first i hi ad.block e2.symm
          omega
  · have hne : i ≠ j := by omega
    have h1 := h.open_ j hj (by omega)
    have h2 : wr.ownsRow B 5 1 es[j].l es[j].len (nums .u8 (markedByte es j)) := own_move h1 (fun k hk => by
      refine hg.kept k (own_lt h1 k hk) (fun e2 => ?_)
      rcases hf i j hi hj hne with h3 | h3
      · rw [h3] at hk; cases hk
      · exact h3 (hk.trans e2))
    exact htk2.row h2 (by decide)

set_option maxHeartbeats 8000000 in
set_option maxRecDepth 100000 in
theorem growByte_calls (B K : Nat) (nn : Int) (vB vN : Value) (es : List Ent) (w : World) (hk : BkBlk w K nn vB vN) (hr : w.ownsRow B 81 3 vB es.length (eCells es)) (hrows : RwsByte B w es (markedByte es)) (hfar : FarByte es)
    (hnum : ∀ (j : Nat) (h : j < es.length), 0 ≤ es[j].n ∧ es[j].n ≤ 100 ∧ es[j].len ≤ 100000000) (hes : es.length ≤ 100) (hB : B ≤ w.heap.size) :
    Calls Tryd.prog 37 #[.pointer (some ⟨K, 0, none⟩)] w fun e w' => e = .returned (.tuple #[]) ∧ ∃ fs, GsByte B w w' vB es fs es.length := by
  obtain ⟨A, c, rfl⟩ := own_slice hr
  have HK := Aside0.mk hk
  have HF := Aside0.mk hfar
  have HN := Aside0.mk hnum
  have HG0 := Aside0.mk (show GsByte B w w (.slice A es.length c) es es 0 from ⟨rfl, fun _ _ _ => ⟨rfl, rfl, rfl, rfl⟩, fun _ _ _ _ => rfl, hr, fun _ _ h => by omega, fun j hj _ => hrows j hj, fun j hj b hb => own_lt (hrows j hj) b hb, TK.refl _ _, Below.refl _ _⟩)
  obtain ⟨ti, hi, hz0, hz1, hz2⟩ : ∃ i, Tryd.prog.info? 5 = some i ∧ i.zero = some (.int .u8 0) ∧ i.size = 1 ∧ i.bytes = 1 := by
    obtain ⟨i, hi, h2⟩ := Option.map_eq_some_iff.1 infoEByte
    simp only [Prod.mk.injEq] at h2
    exact ⟨i, hi, h2⟩
  have HI := Aside0.mk (And.intro hi (And.intro hz0 (And.intro hz1 hz2)))
  clear hk hr hfar hnum hrows hi hz0 hz1 hz2
  go_enter Tryd.func37, Tryd.ntmps37
  go_wp2
  go_loopw [2] (fun v2 wr => ∃ (i : Nat) (fs : List Ent), i ≤ es.length ∧ v2 = .int .i64 i ∧ Aside0 (GsByte B w wr (.slice A es.length c) es fs i)) (fun v2 _ => es.length - (intOf v2).toNat)
  case atStart => exact ⟨0, es, Nat.zero_le _, rfl, HG0⟩
  case round =>
    obtain ⟨i, fs, hi, rfl, HG⟩ := hrel
    have hk1 := HG.out.tk.blk HK.out (by decide)
    have c1 := hk1.c1
    clear hk1
    by_cases hlt : i < es.length
    · have hif : i < fs.length := by rw [HG.out.len]; exact hlt
      obtain ⟨g, cap, he, _, _⟩ := HG.out.row.form (by omega)
      injection he with he1 _ he2
      subst he1; subst he2
      have hrw := HG.out.row
      rw [← HG.out.len] at hrw
      obtain ⟨e0, e1, e2⟩ := eAtByte hrw i hif
      have hfe := HG.out.later i hlt hif (Nat.le_refl _)
      rw [hfe] at e0 e1 e2
      obtain ⟨E, hE⟩ : ∃ E, es[i] = E := ⟨_, rfl⟩
      rw [hE] at e0 e1 e2
      have hnn := HN.out i hlt
      rw [hE] at hnn
      have hop := HG.out.open_ i hlt (Nat.le_refl _)
      have hmk : markedByte es i = List.replicate E.len (1 + E.n) := by unfold markedByte; rw [List.getElem?_eq_getElem hlt, hE]
      rw [hmk, hE] at hop
      obtain ⟨la, len, lc, ga, gn, gc, n⟩ := E
      have HE := Aside0.mk hE
      have HOP := Aside0.mk hop
      obtain ⟨n0, n1, n2⟩ := hnn
      dsimp only at e0 e1 e2 n0 n1 n2
      clear hrw hE hfe hop hmk
      go_wp2_with fail
      obtain ⟨wh, hwh⟩ : ∃ wh, wr.alloc (.cells #[.slice la len lc, .slice ga gn gc, .int .i64 n] 81) = wh := ⟨_, rfl⟩
      obtain ⟨Hb, hHb⟩ : ∃ Hb, wr.heap.size = Hb := ⟨_, rfl⟩
      have hbh : Below wr.heap.size wr wh := hwh ▸ below_alloc (Below.refl _ _) _
      have HH := Aside0.mk (show wh.heap[Hb]? = some (.cells #[.slice la len lc, .slice ga gn gc, .int .i64 n] 81 (0, 0)) from hHb ▸ hwh ▸ World.alloc_heap_new wr _)
      have hBr : B ≤ wr.heap.size := Nat.le_trans hB HG.out.bel.size
      have HGh := Aside0.mk (HG.out.step hbh hBr)
      have HGR := Aside0.mk (GrByte.start (pw_own_below HOP.out hbh))
      have HBW := Aside0.mk (show B ≤ wh.heap.size from Nat.le_trans hBr hbh.size)
      have HBL := Aside0.mk (show Hb < wh.heap.size by rw [← hwh, ← hHb]; simp)
      rw [hwh, hHb]
      clear hbh hwh hHb e0 e1 e2 c1 HG HOP hBr
      go_loopw [4, 5] (fun v4 v5 wr => ∃ (k : Nat) (A2 : Option Addr) (c2 : Nat), k ≤ 40 ∧ v5 = .int .i64 k ∧ v4 = .slice A2 (len + k) c2 ∧ Aside0 (GrByte B wh wr la len lc (1 + n) A2 (len + k) c2)) (fun _ v5 _ => 40 - (intOf v5).toNat)
      case atStart => exact ⟨0, la, lc, by omega, rfl, rfl, HGR⟩
      case round =>
        clear HGR
        obtain ⟨k, A2, c2, hk, rfl, rfl, HR⟩ := hrel
        have HHr := Aside0.mk (show wr.heap[Hb]? = some (.cells #[.slice la len lc, .slice ga gn gc, .int .i64 n] 81 (0, 0)) from (HR.out.tk.block Hb _ 81 (0, 0) HH.out (by decide)).trans HH.out)
        have x2 : wr.cell? ⟨Hb, 2, none⟩ = some (.int .i64 n) := by simp [World.cell?, HHr.out]
        have HBR := Aside0.mk (show B ≤ wr.heap.size from Nat.le_trans HBW.out HR.out.bel.size)
        by_cases hkl : k < 40
        · have hnews : ∀ j u, [Value.int .u8 (1 + n)][j]? = some u → (wr.alloc (.cells #[.int .u8 (1 + n)] 5)).cell? ((⟨wr.heap.size, 0, none⟩ : Addr).add j) = some u := World.news_of_block (heap_alloc_new wr _)
          have HNW := Aside0.mk hnews
          have HON := Aside0.mk (show ∀ u ∈ [Value.int .u8 (1 + n)], u.oneCell' = true by intro u hu; rw [List.mem_singleton.1 hu]; rfl)
          have HRA := Aside0.mk (HR.out.step (below_alloc (Below.refl _ _) (.cells #[.int .u8 (1 + n)] 5)) HBR.out)
          clear hnews
          by_cases hroom : len + k + 1 ≤ c2
          · obtain ⟨g2, rfl⟩ : ∃ g2, A2 = some ⟨g2, 0, none⟩ := by
              rcases HR.out.own.2 with ⟨h, _⟩ | ⟨g2, cap2, cur, h, _⟩
              · injection h with _ _ h3; omega
              · injection h with h _ _; exact ⟨g2, h⟩
            go_wp2_with (first | (go_at_call 69; refine (markByte_calls n _ n0 n1).mono ?_; rintro e w' ⟨rfl, rfl⟩) | (at_builtin; refine wpList_append_own_spare _ rfl _ _ 26 rfl B 5 ti 1 Tryd.underlying26 HI.out.1 HI.out.2.2.1 g2 (len + k) c2 _ rfl HRA.out.own ⟨wr.heap.size, 0, none⟩ 1 1 [.int .u8 (1 + n)] rfl rfl HNW.out HON.out hroom ?_; intro w2 ho2 hg2; have HR2 := Aside0.mk (HRA.out.room ho2 hg2 (Nat.le_trans HBR.out (by simp))); clear ho2 hg2))
            go_roundw
            case rel => exact ⟨k + 1, some ⟨g2, 0, none⟩, c2, by omega, by go_num, rfl, HR2⟩
            case measure => simp [intOf]; omega
          · have hown := HRA.out.own
            have HOC := Aside0.mk (show ∀ b, A2 = some b → ∀ j u, (nums .u8 (List.replicate (len + k) (1 + n)))[j]? = some u → (wr.alloc (.cells #[.int .u8 (1 + n)] 5)).cell? (b.add j) = some u from by
              intro b hb j u hu
              subst hb
              rcases hown.2 with ⟨h, _⟩ | ⟨g2, cap2, cur, h, _⟩
              · cases h
              · injection h with h _ _
                injection h with h
                subst h
                exact hown.cells rfl j u hu)
            have HNO := Aside0.mk (show A2 = none → len + k = 0 ∧ c2 = 0 from by
              intro hb
              subst hb
              rcases hown.2 with ⟨h, h0⟩ | ⟨g2, cap2, cur, h, _⟩
              · injection h with _ h1 h2; exact ⟨h0, h2⟩
              · cases h)
            have HLO := Aside0.mk (show (nums .u8 (List.replicate (len + k) (1 + n))).length = (len + k) * 1 from hown.1)
            clear hown
            go_wp2_with (first | (go_at_call 69; refine (markByte_calls n _ n0 n1).mono ?_; rintro e w' ⟨rfl, rfl⟩) | (at_builtin; refine wpList_append_grows _ rfl _ _ 26 rfl 5 ti _ 1 1 Tryd.underlying26 HI.out.1 HI.out.2.1 HI.out.2.2.1 HI.out.2.2.2 rfl (by decide) A2 (len + k) c2 _ rfl HNO.out HLO.out HOC.out ⟨wr.heap.size, 0, none⟩ 1 1 [.int .u8 (1 + n)] rfl rfl HNW.out HON.out (by omega) (by simp [maxLen]; omega) (by omega) ?_; intro v2 w2 ho2 hg2; obtain ⟨A3, c3, rfl, hr3⟩ := HRA.out.new ho2 hg2 (Nat.le_trans HBR.out (by simp)); have HR2 := Aside0.mk hr3; clear ho2 hg2 hr3))
            go_roundw
            case rel => exact ⟨k + 1, A3, c3, by omega, by go_num, rfl, HR2⟩
            case measure => simp [intOf]; omega
        · obtain rfl : k = 40 := by omega
          have hk2 := (HGh.out.tk.trans (HR.out.tk.mono (fun t ht => .inl ht))).blk HK.out (by decide)
          have c2' := hk2.c1
          have hrr := HR.out.tk.row HGh.out.row (by decide)
          have q1 := hrr.frozenAt (i * 3 + 1)
          rw [← HGh.out.len] at hrr
          obtain ⟨_, q2, _⟩ := eAtByte hrr i hif
          have HNX := Aside0.mk (HGh.out.next HF.out hlt (by rw [HE.out]; exact HR.out) (by rw [HE.out]) HBW.out)
          clear hk2 hrr
          go_wp2
          go_roundw
          case rel => exact ⟨i + 1, _, by omega, by go_num, HNX⟩
          case measure => simp [intOf]; omega
    · obtain rfl : i = es.length := by omega
      go_wp2
      go_end0
      exact ⟨rfl, fs, HG.out⟩

theorem repByte_at {w : World} {A : Option Addr} {n : Nat} {m : Int} (h : ReadsInt w .u8 A n (List.replicate n m)) (k : Nat) (hk : k < n) : ∃ ad, A = some ad ∧ w.cell? (ad.add k) = some (.int .u8 m) := by
  obtain ⟨ad, e, hc⟩ := h.2.2 (by omega)
  have := hc k hk
  rw [List.getD_eq_getElem?_getD, List.getElem?_replicate, if_pos hk] at this
  exact ⟨ad, e, this⟩
set_option maxHeartbeats 8000000 in
set_option maxRecDepth 100000 in
theorem lookByte_calls (B K : Nat) (nn : Int) (vB vN : Value) (fs : List Ent) (w : World) (hk : BkBlk w K nn vB vN) (hr : w.ownsRow B 81 3 vB fs.length (eCells fs)) (hlk : ∀ (j : Nat) (h : j < fs.length), LkByte w fs[j])
    (hnum : ∀ (j : Nat) (h : j < fs.length), 0 ≤ fs[j].n ∧ fs[j].n ≤ 100 ∧ fs[j].len ≤ 100000000) (hes : fs.length ≤ 100) :
    Calls Tryd.prog 44 #[.pointer (some ⟨K, 0, none⟩)] w fun e w' => e = .returned (.bool true) ∧ Below w.heap.size w w' := by
  obtain ⟨A, c, rfl⟩ := own_slice hr
  have HK := Aside0.mk hk
  have HR := Aside0.mk hr
  have HL := Aside0.mk hlk
  have HN := Aside0.mk hnum
  clear hk hr hnum hlk
  go_enter Tryd.func44, Tryd.ntmps44
  go_wp2
  go_loopw [3] (fun v3 wr => ∃ i : Nat, i ≤ fs.length ∧ v3 = .int .i64 i ∧ Aside0 (Below w.heap.size w wr)) (fun v3 _ => fs.length - (intOf v3).toNat)
  case atStart => exact ⟨0, Nat.zero_le _, rfl, ⟨Below.refl _ _⟩⟩
  case round =>
    obtain ⟨i, hi, rfl, HB⟩ := hrel
    have htk := TK.of_below HB.out (fun _ => False)
    have hk1 := htk.blk HK.out (fun h => h)
    have c1 := hk1.c1
    clear hk1
    by_cases hlt : i < fs.length
    · obtain ⟨g, cap, he, _, _⟩ := HR.out.form (by omega)
      injection he with he1 _ he2
      subst he1; subst he2
      obtain ⟨e0, e1, e2⟩ := eAtByte (pw_own_below HR.out HB.out) i hlt
      have hlk := (HL.out i hlt).tk htk (fun h => h)
      obtain ⟨E, hE⟩ : ∃ E, fs[i] = E := ⟨_, rfl⟩
      have hnn := HN.out i hlt
      rw [hE] at e0 e1 e2 hlk hnn
      obtain ⟨la, len, lc, ga, gn, gc, n⟩ := E
      obtain ⟨n0, n1, n2⟩ := hnn
      have hgn : gn = len + 40 := hlk.gn
      subst hgn
      dsimp only at e0 e1 e2 n0 n1 n2
      have c3 : (((len + 40 : Nat) : Int) != (len : Int) + 40) = false := by simp
      have HLK := Aside0.mk hlk
      clear hE hlk htk
      obtain ⟨wh, hwh⟩ : ∃ wh, wr.alloc (.cells #[.slice la len lc, .slice ga (len + 40) gc, .int .i64 n] 81) = wh := ⟨_, rfl⟩
      obtain ⟨Hb, hHb⟩ : ∃ Hb, wr.heap.size = Hb := ⟨_, rfl⟩
      have hbh : Below wr.heap.size wr wh := hwh ▸ below_alloc (Below.refl _ _) _
      have hh : wh.heap[Hb]? = some (.cells #[.slice la len lc, .slice ga (len + 40) gc, .int .i64 n] 81 (0, 0)) := hHb ▸ hwh ▸ World.alloc_heap_new wr _
      have x0 : wh.cell? ⟨Hb, 0, none⟩ = some (.slice la len lc) := by simp [World.cell?, hh]
      have x1 : wh.cell? ⟨Hb, 1, none⟩ = some (.slice ga (len + 40) gc) := by simp [World.cell?, hh]
      have x2 : wh.cell? ⟨Hb, 2, none⟩ = some (.int .i64 n) := by simp [World.cell?, hh]
      have HX0 := Aside0.mk x0
      have HX1 := Aside0.mk x1
      have HX2 := Aside0.mk x2
      rw [← hwh, ← hHb] at x0 x1
      have HBh := Aside0.mk (below_then HB.out HB.out.size hbh)
      have HLh := Aside0.mk (HLK.out.tk (TK.of_below hbh (fun _ => False)) (fun h => h))
      have HW := Aside0.mk hwh
      have HHB := Aside0.mk hHb
      clear hbh hh hwh hHb x2 HLK
      go_wp2_with fail
      rw [HW.out, HHB.out]
      clear e0 e1 e2 c1 x0 x1 HB
      go_loopw [5] (fun v5 wr => ∃ k : Nat, k ≤ len + 40 ∧ v5 = .int .i64 k ∧ Aside0 (Drawn0 wh wr)) (fun v5 _ => len + 40 - (intOf v5).toNat)
      case atStart => exact ⟨0, by omega, rfl, ⟨Drawn0.refl _⟩⟩
      case round =>
        obtain ⟨k, hkk, rfl, HD⟩ := hrel
        have hdb := HD.out.below
        have x0 := pw_cell_below hdb HX0.out
        have x1 := pw_cell_below hdb HX1.out
        have x2 := pw_cell_below hdb HX2.out
        by_cases hkl : k < len + 40
        · obtain ⟨ad2, ea2, hc2⟩ := repByte_at HLh.out.r2 k hkl
          have ea2 : ga = some ad2 := ea2
          subst ea2
          have y2 := pw_cell_below hdb hc2
          have p1 : (k : Int) < ((len + 40 : Nat) : Int) := by omega
          have hcall : ∀ W, Calls Tryd.prog 76 #[.int .u8 (1 + n), .int .i64 n] W fun e w' => e = .returned (.bool true) ∧ w' = W := fun W => (isByte_calls (1 + n) n W n0 n1 rfl).mono fun _ _ ⟨h1, h2⟩ => ⟨h1, h2.symm⟩
          have HCL := Aside0.mk hcall
          clear hc2 hcall
          by_cases hk2 : k < len
          · obtain ⟨ad1, ea1, hc1⟩ := repByte_at HLh.out.r1 k hk2
            have ea1 : la = some ad1 := ea1
            subst ea1
            have y1 := pw_cell_below hdb hc1
            have hd : decide ((k : Int) < (len : Int)) = true := decide_eq_true (by omega)
            clear hc1 hdb
            go_wp2_with fail
            go_quiet ((go_at_call 76; exact Calls.quiet_of_same (HCL.out _)))
            go_wp2
            go_roundw
            case rel => exact ⟨k + 1, by omega, by go_num, ⟨HD.out.step _⟩⟩
            case measure => simp [intOf]; omega
          · have hd : decide ((k : Int) < (len : Int)) = false := decide_eq_false (by omega)
            clear hdb
            go_wp2_with fail
            go_quiet ((go_at_call 76; exact Calls.quiet_of_same (HCL.out _)))
            go_wp2
            go_roundw
            case rel => exact ⟨k + 1, by omega, by go_num, ⟨HD.out.step _⟩⟩
            case measure => simp [intOf]; omega
        · obtain rfl : k = len + 40 := by omega
          go_wp2
          go_roundw
          case rel => exact ⟨i + 1, by omega, by go_num, ⟨below_then HBh.out HBh.out.size HD.out.below⟩⟩
          case measure => simp [intOf]; omega
    · obtain rfl : i = fs.length := by omega
      go_wp2
      go_ret
      exact ⟨rfl, HB.out⟩
end Go.Proofs.YtoalknneifpehaaDoor.Hand
