import Derived.Test.YtncplnobmiljfaaR1
import Derived.Test.YtncplnobmiljfaaT1
import Derived.Test.YtncplnobmiljfaaB03
namespace Go.Proofs.Ytncplnobmiljfaa.Hand
open Go.RowKit Go.Proofs.Ytncplnobmiljfaa.GB Go.Proofs.YtncplnobmiljfaaW.PrintWords Go.Proofs.YtncplnobmiljfaaW.PrintLast Go.Proofs.YtncplnobmiljfaaW.PrintMore
set_option linter.unusedVariables false
set_option linter.unusedSimpArgs false

set_option maxHeartbeats 1000000 in
theorem ref03_Get_calls (A : Option Addr) (c : Nat) (l : List Int) (most : Int) (r1 : ByteArray) (r2 r3 : Int) (w : World) (hA : RB w A l) (hc : l.length ≤ c) (hb : byteOk l = true) (hl : l.length ≤ 140737488351232) (h : strings_Get.f l most = some (r1, r2, r3)) :
    Calls Try.prog 27 #[.slice A l.length c, .int .i64 most] w fun e w' => e = .returned (.tuple #[.string r1, .int .i64 r2, .int .i64 r3]) ∧ Below w.heap.size w w' := by
  unfold strings_Get.f at h
  obtain ⟨⟨x, n, e⟩, hx, h⟩ := Option.map_eq_some_iff.1 h
  obtain ⟨rfl, rfl, rfl⟩ : strOfNums x = r1 ∧ n = r2 ∧ e = r3 := by simpa using h
  clear h
  have HG := Aside0.mk (ref02_Get_calls A c l most x n e w hA hc hb hl hx)
  clear hA hx
  go_enter Try.func27, Try.ntmps27
  go_wp2_with fail
  refine HG.out.mono ?_
  rintro e1 w1 ⟨v, rfl, ho, hb1⟩
  obtain ⟨A1, c1, rfl, hle, hR⟩ := OB_reads ho
  have hs : (convert 22 9 (.slice A1 x.length c1)).run Try.prog w1 = .ok (.string (strOfNums x)) w1 := Kd.C_string (P := Try.prog) Try.underlying22 Try.underlying5 Try.underlying9 hR
  have HB := Aside0.mk hb1
  clear ho hle hR hb1
  go_wp2
  go_ret3
  exact ⟨rfl, HB.out⟩
theorem byte_front {w : World} {A : Option Addr} {l : List Int} {x : Int} (h : Kd.C (Kd.int .u8) w A (l ++ [x]).length (l ++ [x])) : Kd.C (Kd.int .u8) w A l.length l := by
  have := Kd.C_take h (m := l.length) (by rw [List.length_append]; omega)
  rwa [List.take_left] at this
set_option maxHeartbeats 4000000 in
theorem wharfingerlaw03_StringsGets.calls (A : Option Addr) (c : Nat) (l : List Int) (most : Int) (w : World) (hR : Kd.C (Kd.int .u8) w A l.length l) (hc : l.length ≤ c) (hl : l.length ≤ 140737488351232) (hb : byteOk l = true) :
    Calls Try.prog 3 #[.slice A l.length c, .int .i64 most] w fun e w' => e = .returned (.bool true) ∧ Below w.heap.size w w' := by
  have HR := Aside0.mk hR
  have HC := Aside0.mk hc
  have HN0 := Aside0.mk (show ∀ x ∈ [(l.length : Int)], 0 ≤ x by simp)
  have HS0 := Aside0.mk (show [(l.length : Int)].sum < 4611686018427387904 by simp; omega)
  clear hR hc
  by_cases hbig : (l.length : Int) > 1048576
  · have HBY := Aside0.mk (show decide ([(l.length : Int)].sum > 1048576) = true by simpa using hbig)
    clear hbig
    go_enter Try.func3, Try.ntmps3
    go_wp2_with fail
    refine (beyond_calls [(l.length : Int)] true _ 1 _ (lit_readsK .i64 _ _ _ _ _ rfl (by simp)) (by simp) HN0.out (by simp) HS0.out HBY.out).mono ?_
    rintro e w2 ⟨rfl, ⟨nd, rfl⟩⟩
    go_wp2
    go_ret
    exact ⟨rfl, pw_below_drewN (below_alloc (Below.refl _ _) _) _⟩
  · have HBY := Aside0.mk (show decide ([(l.length : Int)].sum > 1048576) = false by simpa using hbig)
    have hl2 : l.length ≤ 1048576 := by omega
    obtain ⟨r, hr⟩ : ∃ r, strings_Get.f l most = some r := by
      unfold strings_Get.f
      rw [optG l most hb]
      exact ⟨_, rfl⟩
    obtain ⟨s, n, e0⟩ := r
    have HG := Aside0.mk hr
    have HBO := Aside0.mk hb
    have c2 : (n == n) = true := by simp
    have c3 : (e0 == e0) = true := by simp
    clear hbig hl hr hb
    go_enter Try.func3, Try.ntmps3
    go_wp2_with fail
    refine (beyond_calls [(l.length : Int)] false _ 1 _ (lit_readsK .i64 _ _ _ _ _ rfl (by simp)) (by simp) HN0.out (by simp) HS0.out HBY.out).mono ?_
    rintro e w2 ⟨rfl, ⟨nd, rfl⟩⟩
    have hb2 : Below w.heap.size w ((w.alloc (.cells (nums .i64 [(l.length : Int)]).toArray 3)).drewN nd) := pw_below_drewN (below_alloc (Below.refl _ _) _) _
    obtain ⟨w3, hw3⟩ : ∃ w3, (w.alloc (.cells (nums .i64 [(l.length : Int)]).toArray 3)).drewN nd = w3 := ⟨_, rfl⟩
    rw [hw3] at hb2
    have HB2 := Aside0.mk hb2
    have HR2 := Aside0.mk (Kd.C_below HR.out hb2)
    rw [hw3]
    clear hb2 hw3
    go_wp2_with fail
    refine (twinBytes_calls A c l _ HR2.out HC.out (by omega)).mono ?_
    rintro e w4 ⟨A4, c4, rfl, hc4, ho4, hb4⟩
    have HB4 := Aside0.mk (below_then HB2.out HB2.out.size hb4)
    have HR4 := Aside0.mk (Kd.C_below HR2.out hb4)
    have HT4 := Aside0.mk (show Kd.C (Kd.int .u8) w4 A4 (l ++ [77]).length (l ++ [77]) from (Kd.R_reads' ho4).2.2)
    have HC4 := Aside0.mk hc4
    clear ho4 hb4 HR2 HB2 hc4
    go_wp2_with fail
    refine (strings_Get.calls A4 c4 l most s n e0 _ (byte_front HT4.out) (Nat.le_of_lt HC4.out) HG.out).mono ?_
    rintro e w5 ⟨rfl, hb5⟩
    have HB5 := Aside0.mk (below_then HB4.out HB4.out.size hb5)
    have HR5 := Aside0.mk (Kd.C_below HR4.out hb5)
    have HT5 := Aside0.mk (Kd.C_below HT4.out hb5)
    clear hb5 HB4 HR4 HT4
    go_wp2_with fail
    refine (ref03_Get_calls A c l most s n e0 _ HR5.out HC.out HBO.out (by omega) HG.out).mono ?_
    rintro e w6 ⟨rfl, hb6⟩
    have HB6 := Aside0.mk (below_then HB5.out HB5.out.size hb6)
    have HR6 := Aside0.mk (Kd.C_below HR5.out hb6)
    have HT6 := Aside0.mk (Kd.C_below HT5.out hb6)
    clear hb6 HB5 HR5 HT5
    go_wp2_with fail
    refine (leftBytes_calls A4 c4 A c l _ HT6.out HC4.out HR6.out HC.out (by omega)).mono ?_
    rintro e w7 ⟨rfl, ⟨nd7, rfl⟩⟩
    go_wp2
    go_ret
    exact ⟨rfl, pw_below_drewN HB6.out _⟩
end Go.Proofs.Ytncplnobmiljfaa.Hand
