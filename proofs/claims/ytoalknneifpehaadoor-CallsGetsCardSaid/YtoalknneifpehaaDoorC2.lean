import Derived.Test.YtoalknneifpehaaDoorC1
import Derived.Test.YtoalknneifpehaaDoorQ03
namespace Go.Proofs.YtoalknneifpehaaDoor.Hand
open Go.RowKit Go.Proofs.YtoalknneifpehaaDoorW.PrintWords Go.Proofs.YtoalknneifpehaaDoorW.PrintLast Go.Proofs.YtoalknneifpehaaDoorW.PrintMore
set_option linter.unusedVariables false
set_option linter.unusedSimpArgs false

/-- A text out of bytes, and what is left of them; an error, and none. -/
def strG (l : List Int) (e : Int) : ByteArray × List Int × Int :=
  if e = 0 then (match strings_Get.f l 255 with | some (m, n, e) => (m, l.drop n.toNat, e) | none => (ByteArray.empty, l, 4)) else (ByteArray.empty, l, e)
/-- Numbers out of bytes, until there are so many more or an error. -/
def grpG : Nat → List Int → List Int → Int → List Int × List Int × Int
  | 0, gs, l, e => (gs, l, e)
  | k + 1, gs, l, e => if e = 0 then grpG k (gs ++ [(numG l e).1]) (numG l e).2.1 (numG l e).2.2 else (gs, l, e)

theorem numG_ok {l : List Int} (h : byteOk l = true) (e : Int) : byteOk (numG l e).2.1 = true := by
  unfold numG
  by_cases he : e = 0
  · rw [if_pos he]
    by_cases hl : l.length < 4
    · rw [if_pos hl]; exact h
    · rw [if_neg hl]
      unfold byteOk at h ⊢; rw [List.all_eq_true] at h ⊢; exact fun x hx => h x (List.mem_of_mem_drop hx)
  · rw [if_neg he]; exact h
theorem sget_some {l : List Int} (h : byteOk l = true) : ∃ (m : ByteArray) (n : Nat) (e : Int), strings_Get.f l 255 = some (m, (n : Int), e) ∧ n ≤ l.length := by
  rcases get_again l 255 h with ⟨e, _, he⟩ | ⟨xs, n, he, hn, _⟩
  · exact ⟨strOfNums [], 0, e, by unfold strings_Get.f; rw [he]; rfl, Nat.zero_le _⟩
  · exact ⟨strOfNums xs, n, 0, by unfold strings_Get.f; rw [he]; rfl, hn⟩
theorem strG_ok {l : List Int} (h : byteOk l = true) (e : Int) : byteOk (strG l e).2.1 = true := by
  unfold strG
  by_cases he : e = 0
  · rw [if_pos he]
    obtain ⟨m, n, e2, h2, _⟩ := sget_some h
    rw [h2]
    exact byteOk_drop h _
  · rw [if_neg he]; exact h

/-- Block C is somebody who calls, as far as he was read. -/
def Cred3 (w : World) (C : Nat) (u g : Int) (v : Value) : Prop := w.heap[C]? = some (.cells #[.int .u32 u, .int .u32 g, v] 25 (0, 0))
theorem Cred3.lt {w : World} {C : Nat} {u g : Int} {v : Value} (h : Cred3 w C u g v) : C < w.heap.size := (Array.getElem?_eq_some_iff.1 h).1
theorem Cred3.c0 {w : World} {C : Nat} {u g : Int} {v : Value} (h : Cred3 w C u g v) : w.cell? ⟨C, 0, none⟩ = some (.int .u32 u) := by simp [World.cell?, show w.heap[C]? = _ from h]
theorem Cred3.c1 {w : World} {C : Nat} {u g : Int} {v : Value} (h : Cred3 w C u g v) : w.cell? ⟨C, 1, none⟩ = some (.int .u32 g) := by simp [World.cell?, show w.heap[C]? = _ from h]
theorem Cred3.c2 {w : World} {C : Nat} {u g : Int} {v : Value} (h : Cred3 w C u g v) : w.cell? ⟨C, 2, none⟩ = some v := by simp [World.cell?, show w.heap[C]? = _ from h]
theorem Cred3.fz {w : World} {C : Nat} {u g : Int} {v : Value} (h : Cred3 w C u g v) (i : Nat) (hi : i < 3) : w.frozen? ⟨C, i, none⟩ = false := by
  simp [World.frozen?, show w.heap[C]? = _ from h]
theorem Cred3.set0 {w : World} {C : Nat} {u g : Int} {v : Value} (h : Cred3 w C u g v) (x : Int) : Cred3 (w.setCell ⟨C, 0, none⟩ (.int .u32 x)) C x g v := by
  obtain ⟨hlt, hk⟩ := Array.getElem?_eq_some_iff.1 h
  show (w.heap.modify C _)[C]? = _
  rw [Array.getElem?_eq_getElem (by rw [Array.size_modify]; exact hlt), Array.getElem_modify_self, hk]
  rfl
theorem Cred3.set1 {w : World} {C : Nat} {u g : Int} {v : Value} (h : Cred3 w C u g v) (x : Int) : Cred3 (w.setCell ⟨C, 1, none⟩ (.int .u32 x)) C u x v := by
  obtain ⟨hlt, hk⟩ := Array.getElem?_eq_some_iff.1 h
  show (w.heap.modify C _)[C]? = _
  rw [Array.getElem?_eq_getElem (by rw [Array.size_modify]; exact hlt), Array.getElem_modify_self, hk]
  rfl
theorem Cred3.set2 {w : World} {C : Nat} {u g : Int} {v : Value} (h : Cred3 w C u g v) (x : Value) : Cred3 (w.setCell ⟨C, 2, none⟩ x) C u g x := by
  obtain ⟨hlt, hk⟩ := Array.getElem?_eq_some_iff.1 h
  show (w.heap.modify C _)[C]? = _
  rw [Array.getElem?_eq_getElem (by rw [Array.size_modify]; exact hlt), Array.getElem_modify_self, hk]
  rfl

/-- Where a reader of who calls stands. -/
structure St (w0 w : World) (l : List Int) (e u g : Int) (v : Value) (gs : List Int) : Prop where
  at_ : At w0.heap.size w0 w (w0.heap.size + 2) w0.heap.size l e
  cred : Cred3 w (w0.heap.size + 1) u g v
  row : Kd.R (Kd.int .u32) 22 w w0.heap.size (fun k => k ≠ w0.heap.size ∧ k ≠ w0.heap.size + 1 ∧ k ≠ w0.heap.size + 2) v gs

theorem St.step {w0 w w' : World} {l l' : List Int} {e e' u g : Int} {v : Value} {gs : List Int} (h : St w0 w l e u g v gs) (ha : At w0.heap.size w0 w' (w0.heap.size + 2) w0.heap.size l' e') (hp : Apart2 w w' (w0.heap.size + 2) w0.heap.size) : St w0 w' l' e' u g v gs :=
  ⟨ha, (hp.2 _ h.cred.lt (by omega) (by omega)).trans h.cred, Kd.R_step h.row (fun k hk hlt => hp.2 k hlt hk.2.2 hk.1)⟩
theorem St.setE {w0 w : World} {l : List Int} {e u g : Int} {v : Value} {gs : List Int} (h : St w0 w l e u g v gs) (e' : Int) : St w0 (w.setCell ⟨w0.heap.size + 2, 0, none⟩ (.int .i64 e')) l e' u g v gs :=
  h.step (h.at_.setE e') ((Apart2.refl _ _ _).setE _)
theorem St.drewN {w0 w : World} {l : List Int} {e u g : Int} {v : Value} {gs : List Int} (h : St w0 w l e u g v gs) (n : Nat) : St w0 (w.drewN n) l e u g v gs := ⟨h.at_.drewN n, h.cred, h.row⟩
theorem St.drew {w0 w : World} {l : List Int} {e u g : Int} {v : Value} {gs : List Int} (h : St w0 w l e u g v gs) : St w0 w.drew l e u g v gs :=
  ⟨⟨h.at_.ne, h.at_.low, h.at_.err, h.at_.got, below_drew1 h.at_.bel⟩, h.cred, h.row⟩
/-- What touches neither of a reader's three blocks, nor what lies below, nor the row. -/
theorem At.other {h0 : Nat} {w0 w w' : World} {E B : Nat} {l : List Int} {e : Int} (h : At h0 w0 w E B l e) (hE : w'.heap[E]? = w.heap[E]?) (hB : w'.heap[B]? = w.heap[B]?) (hb : Below h0 w0 w') : At h0 w0 w' E B l e := by
  obtain ⟨A, c, h1, h2, h3⟩ := h.got
  exact ⟨h.ne, h.low, hE.trans h.err, ⟨A, c, hB.trans h1, h2, h3⟩, hb⟩
theorem St.setC {w0 w : World} {l : List Int} {e u g : Int} {v : Value} {gs : List Int} (h : St w0 w l e u g v gs) (i : Nat) (x : Value) :
    At w0.heap.size w0 (w.setCell ⟨w0.heap.size + 1, i, none⟩ x) (w0.heap.size + 2) w0.heap.size l e ∧ Kd.R (Kd.int .u32) 22 (w.setCell ⟨w0.heap.size + 1, i, none⟩ x) w0.heap.size (fun k => k ≠ w0.heap.size ∧ k ≠ w0.heap.size + 1 ∧ k ≠ w0.heap.size + 2) v gs := by
  refine ⟨h.at_.other (Below.heap_setCell _ _ _ _ (by simp)) (Below.heap_setCell _ _ _ _ (by simp)) (h.at_.bel.setCell (p := ⟨w0.heap.size + 1, i, none⟩) (by simp) _), Kd.R_step h.row (fun k hk hlt => Below.heap_setCell _ _ _ _ (by simpa using hk.2.1))⟩
theorem St.setU {w0 w : World} {l : List Int} {e u g : Int} {v : Value} {gs : List Int} (h : St w0 w l e u g v gs) (x : Int) : St w0 (w.setCell ⟨w0.heap.size + 1, 0, none⟩ (.int .u32 x)) l e x g v gs := ⟨(h.setC 0 _).1, h.cred.set0 x, (h.setC 0 _).2⟩
theorem St.setG {w0 w : World} {l : List Int} {e u g : Int} {v : Value} {gs : List Int} (h : St w0 w l e u g v gs) (x : Int) : St w0 (w.setCell ⟨w0.heap.size + 1, 1, none⟩ (.int .u32 x)) l e u x v gs := ⟨(h.setC 1 _).1, h.cred.set1 x, (h.setC 1 _).2⟩

theorem St.below {w0 w w' : World} {l : List Int} {e u g : Int} {v : Value} {gs : List Int} (h : St w0 w l e u g v gs) (hb : Below w.heap.size w w') : St w0 w' l e u g v gs :=
  ⟨h.at_.other (hb.block _ h.at_.err.lt) (by obtain ⟨A, c, h1, _⟩ := h.at_.got; exact hb.block _ h1.lt) (below_then h.at_.bel h.at_.bel.size hb), (hb.block _ h.cred.lt).trans h.cred, Kd.R_step h.row (fun k hk hlt => hb.block k hlt)⟩
theorem St.alloc {w0 w : World} {l : List Int} {e u g : Int} {v : Value} {gs : List Int} (h : St w0 w l e u g v gs) (o : Obj) : St w0 (w.alloc o) l e u g v gs := h.below (below_alloc (Below.refl _ _) o)
theorem St.setB {w0 w : World} {l l' : List Int} {e u g : Int} {v : Value} {gs : List Int} (h : St w0 w l e u g v gs) (A : Option Addr) (c n : Nat) (hn : n = l'.length) (hc : l'.length ≤ c) (hr : ∀ W, Below w0.heap.size w0 W → RB W A l') : St w0 (w.setCell ⟨w0.heap.size, 0, none⟩ (.slice A n c)) l' e u g v gs :=
  h.step (h.at_.setB A c n hn hc hr) ((Apart2.refl _ _ _).setB _)
theorem St.init (w : World) (A : Option Addr) (c : Nat) (l : List Int) (hr : RB w A l) (hc : l.length ≤ c) :
    St w (((w.alloc (.cells #[.slice A l.length c] 26)).alloc (.cells #[.int .u32 0, .int .u32 0, .slice none 0 0] 25)).alloc (.cells #[.int .i64 0] 31)) l 0 0 0 (.slice none 0 0) [] := by
  have hb := below_alloc (below_alloc (below_alloc (Below.refl w.heap.size w) (.cells #[.slice A l.length c] 26)) (.cells #[.int .u32 0, .int .u32 0, .slice none 0 0] 25)) (.cells #[.int .i64 0] 31)
  refine ⟨⟨by omega, by omega, ?_, ⟨A, c, ((Boxed.new w _ _).alloc _).alloc _, hc, fun W h => Kd.C_below hr h⟩, hb⟩, ?_, Kd.R_nil _ _ _ _ _⟩
  · have := Boxed.new ((w.alloc (.cells #[.slice A l.length c] 26)).alloc (.cells #[.int .u32 0, .int .u32 0, .slice none 0 0] 25)) 31 (.int .i64 0)
    simpa using this
  · have h1 := World.alloc_heap_new (w.alloc (.cells #[.slice A l.length c] 26)) (.cells #[.int .u32 0, .int .u32 0, .slice none 0 0] 25)
    have h2 := (World.grownBy_alloc ((w.alloc (.cells #[.slice A l.length c] 26)).alloc (.cells #[.int .u32 0, .int .u32 0, .slice none 0 0] 25)) (.cells #[.int .i64 0] 31) none).block (w.heap.size + 1) (by simp) (by simp)
    unfold Cred3
    rw [h2]
    simpa using h1

theorem St.setV {w0 w : World} {l : List Int} {e u g : Int} {v : Value} {gs : List Int} (h : St w0 w l e u g v gs) (v' : Value) {gs' : List Int} (hr : Kd.R (Kd.int .u32) 22 w w0.heap.size (fun k => k ≠ w0.heap.size ∧ k ≠ w0.heap.size + 1 ∧ k ≠ w0.heap.size + 2) v' gs') : St w0 (w.setCell ⟨w0.heap.size + 1, 2, none⟩ v') l e u g v' gs' :=
  ⟨(h.setC 2 _).1, h.cred.set2 v', Kd.R_step hr (fun k hk hlt => Below.heap_setCell _ _ _ _ (by simpa using hk.2.1))⟩
/-- Behind an append to the row. -/
theorem St.grown {w0 W w1 : World} {l : List Int} {e u g : Int} {v v1 : Value} {gs gs' : List Int} (h : St w0 W l e u g v gs) (hb : Below w0.heap.size w0 w1) (hg : W.grownBy w1 v.ownBlock)
    (ho : Kd.R (Kd.int .u32) 22 w1 w0.heap.size (fun k => k ≠ w0.heap.size ∧ k ≠ w0.heap.size + 1 ∧ k ≠ w0.heap.size + 2) v1 gs') : Cred3 w1 (w0.heap.size + 1) u g v ∧ St w0 (w1.setCell ⟨w0.heap.size + 1, 2, none⟩ v1) l e u g v1 gs' := by
  have hE : w1.heap[w0.heap.size + 2]? = W.heap[w0.heap.size + 2]? := hg.block _ h.at_.err.lt (fun e => (h.row.1 _ e.symm).2.2 rfl)
  have hC : w1.heap[w0.heap.size + 1]? = W.heap[w0.heap.size + 1]? := hg.block _ h.cred.lt (fun e => (h.row.1 _ e.symm).2.1 rfl)
  have hB : w1.heap[w0.heap.size]? = W.heap[w0.heap.size]? := hg.block _ (by have := h.cred.lt; omega) (fun e => (h.row.1 _ e.symm).1 rfl)
  have hc1 : Cred3 w1 (w0.heap.size + 1) u g v := hC.trans h.cred
  have ha : At w0.heap.size w0 w1 (w0.heap.size + 2) w0.heap.size l e := h.at_.other hE hB hb
  exact ⟨hc1, ha.other (Below.heap_setCell _ _ _ _ (by simp)) (Below.heap_setCell _ _ _ _ (by simp)) (hb.setCell (p := ⟨w0.heap.size + 1, 2, none⟩) (by simp) _), hc1.set2 v1, Kd.R_step ho (fun k hk hlt => Below.heap_setCell _ _ _ _ (by simpa using hk.2.1))⟩
theorem info_t32 : (Tryd.prog.info? 22).map (fun i => (i.zero, i.size, i.bytes)) = some (some (.int .u32 0), 1, 4) := by kernel_rfl

theorem number_St (w0 w : World) (l : List Int) (e u g : Int) (v : Value) (gs : List Int) (h : St w0 w l e u g v gs) (hok : byteOk l = true) :
    Calls Tryd.prog 105 #[.pointer (some ⟨w0.heap.size + 2, 0, none⟩), .pointer (some ⟨w0.heap.size, 0, none⟩)] w fun x w' => x = .returned (.int .u32 (numG l e).1) ∧ St w0 w' (numG l e).2.1 (numG l e).2.2 u g v gs := by
  refine (number_calls _ w0 w _ _ l e h.at_ (byteOk_take hok 4)).mono ?_
  rintro x w' ⟨rfl, h1, h2⟩
  exact ⟨rfl, h.step h1 h2⟩
end Go.Proofs.YtoalknneifpehaaDoor.Hand
