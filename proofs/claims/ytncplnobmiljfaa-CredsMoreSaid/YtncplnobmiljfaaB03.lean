import Derived.Test.YtncplnobmiljfaaQ03
import Derived.Test.YtncplnobmiljfaaA03
namespace Go.Proofs.Ytncplnobmiljfaa.Hand
open Go.RowKit Go.Proofs.Ytncplnobmiljfaa.GB Go.Proofs.YtncplnobmiljfaaW.PrintWords Go.Proofs.YtncplnobmiljfaaW.PrintLast Go.Proofs.YtncplnobmiljfaaW.PrintMore
set_option linter.unusedVariables false
set_option linter.unusedSimpArgs false

theorem lit_readsK (k : IntKind) (t : TypeId) (W : World) (xs : List Int) (cs : Array Value) (fr : Nat × Nat) (hcs : cs = (nums k xs).toArray) (hl : xs.length ≤ 9223372036854775807) :
    Kd.C (Kd.int k) (W.alloc (.cells cs t fr)) (some ⟨W.heap.size, 0, none⟩) xs.length xs := by
  subst hcs
  refine Kd.C_of_reads (d := (0 : Int)) (h1 := fun _ => rfl) ⟨rfl, hl, fun _ => ⟨_, rfl, fun j hj => ?_⟩⟩
  have h := cell_of_row (W.alloc (.cells (nums k xs).toArray t fr)) W.heap.size j (nums k xs).toArray t fr (heap_alloc_new W _)
  rw [add_plain, h]
  simp [nums, List.getD_eq_getElem?_getD, List.getElem?_eq_getElem hj]

theorem beyond_calls (xs : List Int) (b : Bool) (A : Option Addr) (c : Nat) (w : World) (hR : Kd.C (Kd.int .i64) w A xs.length xs) (hc : xs.length ≤ c) (h0 : ∀ x ∈ xs, 0 ≤ x) (hm : xs.length ≤ 100) (hs : xs.sum < 4611686018427387904) (hb : decide (xs.sum > 1048576) = b) :
    Calls Try.prog 24 #[.slice A xs.length c] w fun e w' => e = .returned (.bool b) ∧ Drawn0 w w' :=
  wharfingerlaw01_Beyond.calls (xs.length + 1) A c xs b w hR hc (by rw [beyond_eq _ xs h0 (by omega) (by omega) hs, hb])

def wharfingerlaw03_StringsBack.f (a0 : ByteArray) (l1 : List Int) : Option Bool := if a0.size ≤ 140737488351232 ∧ l1.length ≤ 140737488351232 then some true else none
set_option maxHeartbeats 4000000 in
set_option maxRecDepth 100000 in
theorem wharfingerlaw03_StringsBack.calls (a0 : ByteArray) (A1 : Option Addr) (c1 : Nat) (l1 : List Int) (r : Bool) (w : World) (hr1 : Kd.C (Kd.int .u8) w A1 l1.length l1) (hc1 : l1.length ≤ c1) (h : wharfingerlaw03_StringsBack.f a0 l1 = some r) :
    Calls Try.prog 4 #[.string a0, .slice A1 l1.length c1] w fun e w' => e = .returned (.bool r) ∧ Below w.heap.size w w' := by
  unfold wharfingerlaw03_StringsBack.f at h
  by_cases hg : a0.size ≤ 140737488351232 ∧ l1.length ≤ 140737488351232
  · rw [if_pos hg] at h
    obtain rfl := Option.some.inj h
    obtain ⟨g1, g2⟩ := hg
    have HR := Aside0.mk hr1
    have HC := Aside0.mk hc1
    clear h hr1 hc1
    by_cases hb : (a0.size : Int) + l1.length > 1048576
    · have HBY := Aside0.mk (show decide ([(a0.size : Int), (l1.length : Int)].sum > 1048576) = true by simpa using hb)
      clear hb
      go_enter Try.func4, Try.ntmps4
      go_wp2_with fail
      refine (wharfingerlaw03_alive.calls true _ rfl).mono ?_
      rintro e w1 ⟨rfl, hb1⟩
      have HB1 := Aside0.mk hb1
      clear hb1
      go_wp2_with fail
      refine (beyond_calls [(a0.size : Int), (l1.length : Int)] true _ 2 _ (lit_readsK .i64 _ _ _ _ _ rfl (by simp)) (by simp) (by simp) (by simp) (by simp; omega) HBY.out).mono ?_
      rintro e w2 ⟨rfl, ⟨nd, rfl⟩⟩
      go_wp2_with fail
      refine (wharfingerlaw03_alive.calls true _ rfl).mono ?_
      rintro e w3 ⟨rfl, hb3⟩
      go_wp2
      go_ret
      exact ⟨rfl, below_then (pw_below_drewN (below_alloc HB1.out _) _) (by have := HB1.out.size; simp; omega) hb3⟩
    · have HBY := Aside0.mk (show decide ([(a0.size : Int), (l1.length : Int)].sum > 1048576) = false by simpa using hb)
      have hsz : a0.size ≤ 1048576 := by omega
      have hsl : l1.length ≤ 1048576 := by omega
      clear hb
      have kb := fun W => print_bytes (P := Try.prog) 9 22 5 Try.underlying9 Try.underlying22 Try.underlying5 a0 W
      have HPL := Aside0.mk (putL_length (bytesOf a0))
      have hpl : (putL (bytesOf a0)).length ≤ 1048584 := by have h1 := putL_length (bytesOf a0); have h2 := padI_range (bytesOf a0).length; have h3 := bytesOf_length a0; omega
      have HPB := Aside0.mk hpl
      have HSS := Aside0.mk (same_self ((putL (bytesOf a0)).length + 1) (putL (bytesOf a0)) (by omega) (by omega))
      have HLM := Aside0.mk (show ((putL (bytesOf a0)).length + l1.length) * 1 ≤ 140737488355328 by omega)
      have HGF := Aside0.mk (show strings_Get.f (putL (bytesOf a0) ++ l1) (a0.size : Int) = some (a0, ((putL (bytesOf a0)).length : Int), 0) by
        unfold strings_Get.f
        rw [get_put _ _ _ (by rw [bytesOf_length]; omega) (by rw [bytesOf_length]; omega)]
        rw [Option.map_some]
        dsimp only
        rw [str_bytesOf]
        have h1 := putL_length (bytesOf a0); have h2 := padI_range (bytesOf a0).length
        have h3 : (4 + ((bytesOf a0).length : Int) + padI (bytesOf a0).length) = ((putL (bytesOf a0)).length : Int) := by omega
        rw [h3])
      clear hpl
      obtain ⟨y7, hy7⟩ : ∃ y, y = putL (bytesOf a0) ++ l1 := ⟨_, rfl⟩
      rw [← hy7] at HGF
      have HY7 := Aside0.mk hy7
      clear hy7
      go_enter Try.func4, Try.ntmps4
      go_wp2_with fail
      refine (wharfingerlaw03_alive.calls true _ rfl).mono ?_
      rintro e w1 ⟨rfl, hb1⟩
      have HB1 := Aside0.mk hb1
      clear hb1
      go_wp2_with fail
      refine (beyond_calls [(a0.size : Int), (l1.length : Int)] false _ 2 _ (lit_readsK .i64 _ _ _ _ _ rfl (by simp)) (by simp) (by simp) (by simp) (by simp; omega) HBY.out).mono ?_
      rintro e w2 ⟨rfl, ⟨nd, rfl⟩⟩
      go_wp2_with fail
      refine (strings_Put.calls a0 (putL (bytesOf a0)) _ (sput_f a0 (by omega))).mono ?_
      rintro e w3 ⟨v3, rfl, ho3, hb3⟩
      obtain ⟨A3, c3, rfl⟩ := Kd.R_slice ho3
      have hz2 : w.heap.size ≤ ((w1.alloc (.cells (nums .i64 [(a0.size : Int), (l1.length : Int)]).toArray 3)).drewN nd).heap.size := by have := HB1.out.size; simp; omega
      have HB3 := Aside0.mk (below_then (pw_below_drewN (below_alloc HB1.out _) _) hz2 hb3)
      have HO3 := Aside0.mk (Kd.R_lower ho3 hz2)
      clear hb3 ho3
      go_wp2_with fail
      have hb4 := bytes_below HB3.out HB3.out.size 5 a0
      have hr4 : RB (Lib.bytesWorld w3 5 a0) (some ⟨w3.heap.size, 0, none⟩) (bytesOf a0) :=
        Kd.C_of_reads (d := (0 : Int)) (h1 := fun _ => rfl) (by have := bytes_reads w3 5 a0 (by omega); rw [← bytesOf_length] at this; exact this)
      have ho4 := Kd.R_step (w1 := Lib.bytesWorld w3 5 a0) HO3.out (fun k _ hk => Lib.bytesWorld_at_old w3 5 a0 k hk)
      have hcall := opaque_Put.calls (some ⟨w3.heap.size, 0, none⟩) (grownCap w3 a0.size 0 5) (bytesOf a0) (putL (bytesOf a0)) (Lib.bytesWorld w3 5 a0) hr4 (by rw [bytesOf_length]; exact grownCap_ge _ _ _ _) (put_f _ (by rw [bytesOf_length]; omega))
      rw [bytesOf_length] at hcall
      have HB4 := Aside0.mk hb4
      have HO4 := Aside0.mk ho4
      clear hb4 hr4 ho4 HO3
      refine hcall.mono ?_
      clear hcall
      rintro e w5 ⟨v5, rfl, ho5, hb5⟩
      obtain ⟨A5, c5, rfl⟩ := Kd.R_slice ho5
      have ho5' := Kd.R_elder' HO4.out (Kd.R_base ho5) hb5
      have HB5 := Aside0.mk (below_then HB4.out HB4.out.size hb5)
      have HO5 := Aside0.mk (Kd.R_mono ho5' (ok' := fun _ => True) (fun _ _ => trivial))
      have HR5 := Aside0.mk (Kd.R_reads' ho5)
      clear ho5 hb5 ho5' HO4
      go_wp2_with fail
      refine (wharfingerlaw01_SameBytes.calls ((putL (bytesOf a0)).length + 1) _ _ (putL (bytesOf a0)) _ _ (putL (bytesOf a0)) true _ (Kd.R_reads' HO5.out).2.2 (Kd.R_reads' HO5.out).2.1 HR5.out.2.2 HR5.out.2.1 HSS.out).mono ?_
      rintro e w6 ⟨rfl, ⟨nd6, rfl⟩⟩
      go_wp2_with (at_builtin; refine Kd.R_append_row (Value.int .u8) (0 : Int) (h1 := fun _ => rfl) (w0 := w) w.heap.size rfl _ _ 22 5 (.int .u8 0) 1 rfl Try.underlying22 infoB rfl (by decide) _ (putL (bytesOf a0)) l1 A1 _ c1 (fun _ => True) rfl rfl (fun _ _ => trivial) HO5.out (Kd.C_below HR.out (pw_below_drewN HB5.out _)) (pw_below_drewN HB5.out _) HB5.out.size HLM.out ?_; intro v1 w7 ho7 hb7 hg7 hat7; rw [← HY7.out] at ho7; obtain ⟨A7, c7, rfl, hle7, hR7⟩ := OB_reads ho7; have HB7 := Aside0.mk hb7; have HR7 := Aside0.mk hR7; have HC7 := Aside0.mk hle7; clear hb7 hR7 ho7 hg7 hat7 hle7)
      refine (strings_Get.calls A7 c7 y7 (a0.size : Int) a0 ((putL (bytesOf a0)).length : Int) 0 _ HR7.out HC7.out HGF.out).mono ?_
      rintro e w8 ⟨rfl, hb8⟩
      go_wp2
      go_ret
      exact ⟨rfl, below_then HB7.out HB7.out.size hb8⟩
  · rw [if_neg hg] at h; cases h
end Go.Proofs.Ytncplnobmiljfaa.Hand
