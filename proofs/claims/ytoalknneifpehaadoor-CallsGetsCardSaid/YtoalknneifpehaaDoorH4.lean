import Derived.Test.YtoalknneifpehaaDoorH3
namespace Go.Proofs.YtoalknneifpehaaDoor.Hand
open Go.RowKit Go.Proofs.YtoalknneifpehaaDoorW.PrintWords Go.Proofs.YtoalknneifpehaaDoorW.PrintLast Go.Proofs.YtoalknneifpehaaDoorW.PrintMore
set_option linter.unusedVariables false
set_option linter.unusedSimpArgs false

/-- Two rows, as a new row of rows. -/
theorem two_rows (w : World) (A0 A1 : Option Addr) (c0 c1 : Nat) (xs ys : List Int) (h0 : RB w A0 xs) (h1 : RB w A1 ys) (k0 : xs.length ≤ c0) (k1 : ys.length ≤ c1) :
    RBs (w.alloc (.cells #[.slice A0 xs.length c0, .slice A1 ys.length c1] 26)) (some ⟨w.heap.size, 0, none⟩) [xs, ys] := by
  refine ⟨rfl, by simp, fun _ => ⟨_, rfl, fun j p hj => ?_⟩⟩
  have hb : ∀ i, (w.alloc (.cells #[.slice A0 xs.length c0, .slice A1 ys.length c1] 26)).cell? ⟨w.heap.size, i, none⟩ = (#[Value.slice A0 xs.length c0, .slice A1 ys.length c1] : Array Value)[i]? := fun i => blk_cell (heap_alloc_new w _) i
  match j, hj with
  | 0, hj =>
    obtain rfl : xs = p := by simpa using hj
    refine ⟨[.slice A0 xs.length c0], rfl, ⟨A0, c0, rfl, k0, Kd.C_alloc h0 _⟩, fun i u hu => ?_⟩
    match i, hu with
    | 0, hu => rw [add_plain, hb]; simpa using hu
  | 1, hj =>
    obtain rfl : ys = p := by simpa using hj
    refine ⟨[.slice A1 ys.length c1], rfl, ⟨A1, c1, rfl, k1, Kd.C_alloc h1 _⟩, fun i u hu => ?_⟩
    match i, hu with
    | 0, hu => rw [show 1 * (Kd.slice 5 (Kd.int .u8)).sz + 0 = 1 from rfl, add_plain, hb]; simpa using hu

/-- Bytes with their noughts. -/
def padded (xs : List Int) : List Int := xs ++ List.replicate (padI xs.length).toNat 0
theorem padded_length (xs : List Int) : (padded xs).length = xs.length + (padI xs.length).toNat := by simp [padded]

def opaque_PutFixed.f (l0 : List Int) : Option (List Int) := if l0.length ≤ 140737488355320 then some (padded l0) else none
set_option maxHeartbeats 1000000 in
theorem opaque_PutFixed.calls (A0 : Option Addr) (c0 : Nat) (l0 : List Int) (r : List Int) (w : World) (hr0 : Kd.C (Kd.int .u8) w A0 l0.length l0) (hc0 : l0.length ≤ c0) (h : opaque_PutFixed.f l0 = some r) :
    Calls Tryd.prog 64 #[.slice A0 l0.length c0] w fun e w' => ∃ v0_ : Value, e = .returned (v0_) ∧ Kd.R (Kd.int .u8) 5 w' w.heap.size (fun _ => True) v0_ r ∧ Below w.heap.size w w' := by
  unfold opaque_PutFixed.f at h
  by_cases hl : l0.length ≤ 140737488355320
  · rw [if_pos hl] at h
    obtain rfl := Option.some.inj h
    clear h
    have hp := padI_range l0.length
    obtain ⟨q, hq⟩ : ∃ q : Nat, padI l0.length = q := ⟨(padI l0.length).toNat, by omega⟩
    rw [hq] at hp
    have HQ := Aside0.mk hq
    have HR := Aside0.mk hr0
    have HC := Aside0.mk hc0
    clear hq hr0 hc0
    have hmk := print_make (P := Tryd.prog) 26 5 .u8 1 Tryd.underlying26 infoB (by decide) q (by omega)
    go_enter Tryd.func64, Tryd.ntmps64
    go_wp2_with (go_at_call 99; refine (opaque_Pad.calls l0.length q _ (by unfold opaque_Pad.f; rw [HQ.out])).mono ?_; rintro e w' ⟨rfl, ⟨nd, rfl⟩⟩)
    have hown : ∀ (W : World), OB (W.alloc (.cells (madeCells #[.int .u8 0] q) 5)) W.heap.size (.slice (some ⟨W.heap.size, 0, none⟩) q q) (List.replicate q 0) := fun W => OB_of (by have := own_made W W.heap.size 5 .u8 q (Nat.le_refl _) (by omega); simpa [nums] using this)
    have hR1 : RB ((w.drewN nd).alloc (.cells (madeCells #[.int .u8 0] q) 5)) (some ⟨w.heap.size, 0, none⟩) (List.replicate q 0) := by
      obtain ⟨A1, c1, hv1, _, h⟩ := OB_reads (hown (w.drewN nd))
      injection hv1 with e1 _ _
      exact e1 ▸ h
    have h2 := two_rows ((w.drewN nd).alloc (.cells (madeCells #[.int .u8 0] q) 5)) A0 (some ⟨w.heap.size, 0, none⟩) c0 q l0 (List.replicate q 0) (Kd.C_alloc (Kd.C_drewN HR.out _) _) hR1 HC.out (by simp)
    simp only [List.length_replicate] at h2
    have hsz : ((w.drewN nd).alloc (.cells (madeCells #[.int .u8 0] q) 5)).heap.size = w.heap.size + 1 := by rw [World.size_alloc]; rfl
    rw [hsz] at h2
    have H2 := Aside0.mk h2
    clear h2 hsz hR1 hown hmk
    refine (concat_calls (some ⟨w.heap.size + 1, 0, none⟩) 2 [l0, List.replicate q 0] _ H2.out (by simp) (by simp; omega)).mono ?_
    rintro e w' ⟨v, rfl, ho, hb⟩
    have HO := Aside0.mk ho
    have HB := Aside0.mk hb
    clear ho hb
    go_wp2
    go_ret
    refine ⟨v, rfl, ?_, ?_⟩
    · have := Kd.R_lower HO.out (base' := w.heap.size) (by simp; omega)
      simpa [padded, HQ.out] using this
    · refine below_then (w1 := ((w.drewN nd).alloc (.cells (madeCells #[.int .u8 0] q) 5)).alloc (.cells #[.slice A0 l0.length c0, .slice (some ⟨w.heap.size, 0, none⟩) q q] 26)) ?_ (by simp; omega) HB.out
      exact below_alloc (below_alloc (pw_below_drewN (Below.refl _ _) _) _) _
  · rw [if_neg hl] at h; cases h
end Go.Proofs.YtoalknneifpehaaDoor.Hand
