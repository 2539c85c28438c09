import Derived.Test.YtoalknneifpehaaDoorS2
import Derived.RangeFuncBox
import Derived.RangeFuncNested
import Derived.Laws.EntriesVeiled
namespace Go.Proofs.YtoalknneifpehaaDoor.Hand
open Go.RowKit Go.Proofs.YtoalknneifpehaaDoorW.PrintWords Go.Proofs.YtoalknneifpehaaDoorW.PrintLast Go.Proofs.YtoalknneifpehaaDoorW.PrintMore
set_option linter.unusedVariables false
set_option linter.unusedSimpArgs false

/-- A number out of bytes, and what is left of them; an error, and none. -/
def numG (l : List Int) (e : Int) : Int × List Int × Int := if e = 0 then (if l.length < 4 then (0, l, 4) else (deB (l.take 4), l.drop 4, 0)) else (0, l, e)

/-- Where a reader stands: its error's box, its bytes' box, the bytes that are left, the error. A: what lies below h0 as it lay in w0, the bytes are read there. -/
structure At (h0 : Nat) (w0 w : World) (E B : Nat) (l : List Int) (e : Int) : Prop where
  ne : E ≠ B
  low : h0 ≤ E ∧ h0 ≤ B
  err : Boxed w E 31 (.int .i64 e)
  got : ∃ A c, Boxed w B 26 (.slice A l.length c) ∧ l.length ≤ c ∧ ∀ W, Below h0 w0 W → RB W A l
  bel : Below h0 w0 w

/-- What such a reader leaves as it lay. -/
def Apart2 (w w' : World) (E B : Nat) : Prop := w.heap.size ≤ w'.heap.size ∧ ∀ k, k < w.heap.size → k ≠ E → k ≠ B → w'.heap[k]? = w.heap[k]?
theorem Apart2.refl (w : World) (E B : Nat) : Apart2 w w E B := ⟨Nat.le_refl _, fun _ _ _ _ => rfl⟩
theorem Apart2.trans {w w1 w2 : World} {E B : Nat} (h : Apart2 w w1 E B) (h2 : Apart2 w1 w2 E B) : Apart2 w w2 E B :=
  ⟨Nat.le_trans h.1 h2.1, fun k hk a b => (h2.2 k (Nat.lt_of_lt_of_le hk h.1) a b).trans (h.2 k hk a b)⟩
theorem Apart2.setE {w w' : World} {E B : Nat} (h : Apart2 w w' E B) (v : Value) : Apart2 w (w'.setCell ⟨E, 0, none⟩ v) E B :=
  ⟨Nat.le_trans h.1 (grownBy_setCell' w' E v).size, fun k hk a b => ((grownBy_setCell' w' E v).block k (Nat.lt_of_lt_of_le hk h.1) (fun e => a (by injection e))).trans (h.2 k hk a b)⟩
theorem Apart2.setB {w w' : World} {E B : Nat} (h : Apart2 w w' E B) (v : Value) : Apart2 w (w'.setCell ⟨B, 0, none⟩ v) E B :=
  ⟨Nat.le_trans h.1 (grownBy_setCell' w' B v).size, fun k hk a b => ((grownBy_setCell' w' B v).block k (Nat.lt_of_lt_of_le hk h.1) (fun e => b (by injection e))).trans (h.2 k hk a b)⟩
theorem Apart2.drewN {w w' : World} {E B : Nat} (h : Apart2 w w' E B) (n : Nat) : Apart2 w (w'.drewN n) E B := ⟨h.1, h.2⟩
theorem Apart2.box {w w' : World} {E B k : Nat} {t : TypeId} {v : Value} (h : Apart2 w w' E B) (hb : Boxed w k t v) (a : k ≠ E) (b : k ≠ B) : Boxed w' k t v := (h.2 k hb.lt a b).trans hb
theorem Boxed.drewN {w : World} {k : Nat} {t : TypeId} {v : Value} (h : Boxed w k t v) (n : Nat) : Boxed (w.drewN n) k t v := h

theorem At.drewN {h0 : Nat} {w0 w : World} {E B : Nat} {l : List Int} {e : Int} (h : At h0 w0 w E B l e) (n : Nat) : At h0 w0 (w.drewN n) E B l e :=
  ⟨h.ne, h.low, h.err, h.got, pw_below_drewN h.bel n⟩
theorem At.setE {h0 : Nat} {w0 w : World} {E B : Nat} {l : List Int} {e : Int} (h : At h0 w0 w E B l e) (e' : Int) : At h0 w0 (w.setCell ⟨E, 0, none⟩ (.int .i64 e')) E B l e' := by
  obtain ⟨A, c, h1, h2, h3⟩ := h.got
  exact ⟨h.ne, h.low, h.err.set _, ⟨A, c, h1.other (Ne.symm h.ne) _, h2, h3⟩, h.bel.setCell (p := ⟨E, 0, none⟩) h.low.1 _⟩
theorem At.setB {h0 : Nat} {w0 w : World} {E B : Nat} {l l' : List Int} {e : Int} (h : At h0 w0 w E B l e) (A : Option Addr) (c : Nat) (n : Nat) (hn : n = l'.length) (hc : l'.length ≤ c) (hr : ∀ W, Below h0 w0 W → RB W A l') : At h0 w0 (w.setCell ⟨B, 0, none⟩ (.slice A n c)) E B l' e := by
  subst hn
  obtain ⟨A1, c1, h1, h2, h3⟩ := h.got
  exact ⟨h.ne, h.low, h.err.other h.ne _, ⟨A, c, h1.set _, hc, hr⟩, h.bel.setCell (p := ⟨B, 0, none⟩) h.low.2 _⟩

theorem info_tb : ∃ i, Tryd.prog.info? 5 = some i ∧ i.size = 1 := Option.map_eq_some_iff.1 (show (Tryd.prog.info? 5).map (·.size) = some 1 by kernel_rfl)
/-- 'xs[m:]', without a case on the capacity. -/
theorem from_ (A : Option Addr) (l : List Int) (c m : Nat) (x : Int) (hx : x = m) (hm : m ≤ l.length) (hc : l.length ≤ c) :
    ∃ A' : Option Addr, (∀ W : World, (Instr.slice 26 (.slice A l.length c) (some (.int .i64 x)) none none).run Tryd.prog W = .ok (.slice A' (l.length - m) (c - m)) W) ∧ ∀ W, RB W A l → RB W A' (l.drop m) := by
  subst hx
  obtain ⟨i, hi, hs⟩ := info_tb
  obtain ⟨A', h1, h2⟩ := print_cut (P := Tryd.prog) 26 5 .i64 Tryd.underlying26 hi hs A l.length c m hm
  refine ⟨A', h1, fun W h => ?_⟩
  have := h2 W .u8 l hc (Kd.reads_of_C (d := (0 : Int)) h)
  refine Kd.C_of_reads (d := (0 : Int)) (h1 := fun _ => rfl) ?_
  rw [List.length_drop]; exact this

set_option maxHeartbeats 2000000 in
theorem number_calls (h0 : Nat) (w0 w : World) (E B : Nat) (l : List Int) (e : Int) (hA : At h0 w0 w E B l e) (hok : byteOk (l.take 4) = true) :
    Calls Tryd.prog 105 #[.pointer (some ⟨E, 0, none⟩), .pointer (some ⟨B, 0, none⟩)] w fun x w' => x = .returned (.int .u32 (numG l e).1) ∧ At h0 w0 w' E B (numG l e).2.1 (numG l e).2.2 ∧ Apart2 w w' E B := by
  have HA := Aside0.mk hA
  have HOK := Aside0.mk hok
  have c1 := hA.err.cell
  have z1 := hA.err.frozen
  obtain ⟨A, c, hB, hc, hR⟩ := hA.got
  have c2 := hB.cell
  have z2 := hB.frozen
  have HR := Aside0.mk hR
  have HC := Aside0.mk hc
  have HN := Aside0.mk hA.ne
  have HBX := Aside0.mk hB
  clear hA hok hB hc hR
  by_cases he : e = 0
  · subst he
    by_cases hl : l.length < 4
    · have e1 : numG l 0 = (0, l, 4) := by unfold numG; rw [if_pos rfl, if_pos hl]
      rw [e1]
      have hg := fun W h => words_Get.calls A c l 0 4 W h HC.out (by unfold words_Get.f; rw [if_pos HOK.out, if_pos hl, if_pos hl])
      have HG := Aside0.mk hg
      clear hg hl e1
      go_enter Tryd.func105, Tryd.ntmps105
      go_wp2_with fail
      refine (HG.out _ (HR.out _ HA.out.bel)).mono ?_
      rintro e w1 ⟨rfl, ⟨nd, rfl⟩⟩
      have c3 := ((HA.out.drewN nd).setE 4).err.cell
      go_wp2
      go_ret
      exact ⟨rfl, (HA.out.drewN nd).setE 4, ((Apart2.refl _ _ _).drewN nd).setE _⟩
    · have e1 : numG l 0 = (deB (l.take 4), l.drop 4, 0) := by unfold numG; rw [if_pos rfl, if_neg hl]
      rw [e1]
      have hg := fun W h => words_Get.calls A c l (deB (l.take 4)) 0 W h HC.out (by unfold words_Get.f; rw [if_pos HOK.out, if_neg hl, if_neg hl])
      have HG := Aside0.mk hg
      have h4 : 4 ≤ l.length := by omega
      obtain ⟨A4, hcut, hR4⟩ := from_ A l c 4 4 rfl h4 HC.out
      have HR4 := Aside0.mk hR4
      clear hg hl e1 hR4
      go_enter Tryd.func105, Tryd.ntmps105
      go_wp2_with fail
      refine (HG.out _ (HR.out _ HA.out.bel)).mono ?_
      rintro e w1 ⟨rfl, ⟨nd, rfl⟩⟩
      have c3 := ((HA.out.drewN nd).setE 0).err.cell
      have hB2 := (Boxed.drewN HBX.out nd).other (Ne.symm HN.out) (.int .i64 0)
      have c4 := hB2.cell
      have z4 := hB2.frozen
      clear hB2
      go_wp2
      go_ret
      exact ⟨rfl, ((HA.out.drewN nd).setE 0).setB A4 (c - 4) _ (by rw [List.length_drop]) (by have := HC.out; rw [List.length_drop]; omega) (fun W h => HR4.out W (HR.out W h)), (((Apart2.refl _ _ _).drewN nd).setE _).setB _⟩
  · have e1 : numG l e = (0, l, e) := by unfold numG; rw [if_neg he]
    rw [e1]
    have c3 : (e == 0) = false := beq_eq_false_iff_ne.mpr he
    clear e1 he
    go_enter Tryd.func105, Tryd.ntmps105
    go_wp2
    go_ret
    exact ⟨rfl, HA.out, Apart2.refl _ _ _⟩
end Go.Proofs.YtoalknneifpehaaDoor.Hand
