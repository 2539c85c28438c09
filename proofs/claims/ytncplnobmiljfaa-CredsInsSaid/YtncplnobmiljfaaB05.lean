import Derived.Test.YtncplnobmiljfaaT2
import Derived.Test.YtncplnobmiljfaaGI1
import Derived.Test.YtncplnobmiljfaaQ05b
import Derived.Deep.RegionHeld3
namespace Go.Proofs.Ytncplnobmiljfaa.Hand
open Go.RowKit Go.Proofs.Ytncplnobmiljfaa.GB Go.Proofs.Ytncplnobmiljfaa.GC Go.Proofs.Ytncplnobmiljfaa.GI Go.Proofs.YtncplnobmiljfaaW.PrintWords Go.Proofs.YtncplnobmiljfaaW.PrintLast Go.Proofs.YtncplnobmiljfaaW.PrintMore
set_option linter.unusedVariables false
set_option linter.unusedSimpArgs false

theorem C_front {k : IntKind} {w : World} {A : Option Addr} {l : List Int} {x : Int} (h : Kd.C (Kd.int k) w A (l ++ [x]).length (l ++ [x])) : Kd.C (Kd.int k) w A l.length l := by
  have := Kd.C_take h (m := l.length) (by rw [List.length_append]; omega)
  rwa [List.take_left] at this
set_option maxHeartbeats 8000000 in
set_option maxRecDepth 100000 in
theorem wharfingerlaw05_CredsIns.calls (u g x : Int) (A : Option Addr) (c : Nat) (l : List Int) (k : Nat) (b : Bool) (w : World) (hR : Kd.C (Kd.int .u32) w A l.length l) (hc : l.length ≤ c) (hl : l.length ≤ 140737488351232)
    (hin : l.length ≤ 1048576 → creds_In.f k u g l x = some b) (href : l.length ≤ 1048576 → wharfingerref05_In.f k u g l x = some b) :
    Calls Try.prog 9 #[.agg #[.int .u32 u, .int .u32 g, .slice A l.length c], .int .u32 x] w fun e w' => e = .returned (.bool true) ∧ Below w.heap.size w w' := by
  obtain ⟨wb, hwb⟩ : ∃ wb, w.alloc (.cells #[.int .u32 u, .int .u32 g, .slice A l.length c] 43) = wb := ⟨_, rfl⟩
  have hb0 : Below w.heap.size w wb := hwb ▸ below_alloc (Below.refl w.heap.size w) _
  have hx : Cred3 wb w.heap.size u g (.slice A l.length c) := hwb ▸ cred3_new w u g (.slice A l.length c)
  have x0 := hx.c0
  have x1 := hx.c1
  have x2 := hx.c2
  rw [← hwb] at x0 x1 x2
  have HW := Aside0.mk hwb
  have HB := Aside0.mk hb0
  have HX := Aside0.mk hx
  have HR := Aside0.mk (Kd.C_below hR hb0)
  have HC := Aside0.mk hc
  clear hR hwb hx hb0 hc
  have hlit : Kd.C (Kd.int .i64) (wb.alloc (.cells #[.int .i64 (l.length : Int)] 3)) (some ⟨w.heap.size + 1, 0, none⟩) [(l.length : Int)].length [(l.length : Int)] := by
    have h := lit_readsK .i64 3 wb [(l.length : Int)] #[.int .i64 (l.length : Int)] (0, 0) rfl (by simp)
    rwa [show wb.heap.size = w.heap.size + 1 by rw [← HW.out]; simp] at h
  have HLIT := Aside0.mk hlit
  clear hlit
  have HN0 := Aside0.mk (show ∀ x ∈ [(l.length : Int)], 0 ≤ x by simp)
  have HS0 := Aside0.mk (show [(l.length : Int)].sum < 4611686018427387904 by simp; omega)
  by_cases hbig : (l.length : Int) > 1048576
  · have HBY := Aside0.mk (show decide ([(l.length : Int)].sum > 1048576) = true by simpa using hbig)
    clear hbig hin href
    go_enter Try.func9, Try.ntmps9
    go_wp2_with fail
    rw [HW.out]
    refine (beyond_calls [(l.length : Int)] true (some ⟨w.heap.size + 1, 0, none⟩) 1 (wb.alloc (.cells #[.int .i64 (l.length : Int)] 3)) HLIT.out (Nat.le_refl _) HN0.out (by simp) HS0.out HBY.out).mono ?_
    rintro e w2 ⟨rfl, ⟨nd, rfl⟩⟩
    go_wp2
    go_ret
    exact ⟨rfl, pw_below_drewN (below_alloc HB.out _) _⟩
  · have HBY := Aside0.mk (show decide ([(l.length : Int)].sum > 1048576) = false by simpa using hbig)
    have hl2 : l.length ≤ 1048576 := by omega
    have HIN := Aside0.mk (hin hl2)
    have HREF := Aside0.mk (href hl2)
    clear hbig hin href hl
    go_enter Try.func9, Try.ntmps9
    go_wp2_with fail
    rw [HW.out]
    refine (beyond_calls [(l.length : Int)] false (some ⟨w.heap.size + 1, 0, none⟩) 1 (wb.alloc (.cells #[.int .i64 (l.length : Int)] 3)) HLIT.out (Nat.le_refl _) HN0.out (by simp) HS0.out HBY.out).mono ?_
    rintro e w2 ⟨rfl, ⟨nd, rfl⟩⟩
    obtain ⟨w3, hw3⟩ : ∃ w3, (wb.alloc (.cells #[.int .i64 (l.length : Int)] 3)).drewN nd = w3 := ⟨_, rfl⟩
    have hb3 : Below wb.heap.size wb w3 := hw3 ▸ pw_below_drewN (below_alloc (Below.refl _ _) _) _
    have hX3 := HX.out.below hb3
    have x0 := hX3.c0
    have x1 := hX3.c1
    have x2 := hX3.c2
    have HX3 := Aside0.mk hX3
    have HB3 := Aside0.mk (below_then HB.out HB.out.size hb3)
    have HR3 := Aside0.mk (Kd.C_below HR.out hb3)
    rw [hw3]
    clear hX3 hb3 hw3 HX HB HR HW
    go_wp2_with fail
    refine (twinCred_calls u g A c l _ HR3.out HC.out (by omega)).mono ?_
    rintro e w4 ⟨A4, c4, rfl, hc4, ho4, hb4⟩
    have hX4 := HX3.out.below hb4
    have HB4 := Aside0.mk (below_then HB3.out HB3.out.size hb4)
    have HR4 := Aside0.mk (Kd.C_below HR3.out hb4)
    have HT4 := Aside0.mk (show Kd.C (Kd.int .u32) w4 A4 (l ++ [77]).length (l ++ [77]) from (Kd.R_reads' ho4).2.2)
    have hb5 := below_alloc (Below.refl w4.heap.size w4) (.cells #[.int .u32 u, .int .u32 g, .slice A4 l.length c4] 43)
    obtain ⟨w5, hw5⟩ : ∃ w5, w4.alloc (.cells #[.int .u32 u, .int .u32 g, .slice A4 l.length c4] 43) = w5 := ⟨_, rfl⟩
    rw [hw5] at hb5
    have hT5 : Cred3 w5 w4.heap.size u g (.slice A4 l.length c4) := hw5 ▸ cred3_new w4 u g _
    have hX5 : Cred3 w5 w.heap.size u g (.slice A l.length c) := hX4.below hb5
    have y0 := hX5.c0
    have y1 := hX5.c1
    have y2 := hX5.c2
    have z0 := hT5.c0
    have z1 := hT5.c1
    have z2 := hT5.c2
    rw [← hw5] at y0 y1 y2 z0 z1 z2
    have HX5 := Aside0.mk hX5
    have HY5 := Aside0.mk hT5
    have HB5 := Aside0.mk (below_then HB4.out HB4.out.size hb5)
    have HR5 := Aside0.mk (Kd.C_below HR4.out hb5)
    have HT5 := Aside0.mk (Kd.C_below HT4.out hb5)
    have HW5 := Aside0.mk hw5
    clear hX4 ho4 hb4 hb5 hw5 hT5 hX5 HX3 HB3 HR3 HB4 HR4 HT4
    go_wp2_with fail
    rw [HW5.out]
    have HX6 : Aside0 (Cred3 w5.drew w.heap.size u g (.slice A l.length c)) := ⟨HX5.out⟩
    have HY6 : Aside0 (Cred3 w5.drew w4.heap.size u g (.slice A4 l.length c4)) := ⟨HY5.out⟩
    have HB6 : Aside0 (Below w.heap.size w w5.drew) := ⟨below_drew1 HB5.out⟩
    have HR6 : Aside0 (Kd.C (Kd.int .u32) w5.drew A l.length l) := ⟨HR5.out⟩
    have HT6 : Aside0 (Kd.C (Kd.int .u32) w5.drew A4 (l ++ [77]).length (l ++ [77])) := ⟨HT5.out⟩
    rw [HW5.out] at y0 y1 y2 z0 z1 z2
    clear HX5 HY5 HB5 HR5 HT5 HW5
    have HX5 := HX6
    have HY5 := HY6
    have HB5 := HB6
    have HR5 := HR6
    have HT5 := HT6
    have HNS := Aside0.mk (show wharfingerlaw01_SameCred.f 1 65534 65534 [] 65534 65534 [] = some true by rfl)
    have bb : (b == b) = true := by simp
    clear HX6 HY6 HB6 HR6 HT6
    go_region_held3 (fun w' => (w'.cell? ⟨w.heap.size, 0, none⟩ = some (.int .u32 u) ∧ w'.cell? ⟨w.heap.size, 1, none⟩ = some (.int .u32 g) ∧ w'.cell? ⟨w.heap.size, 2, none⟩ = some (.slice A l.length c)) ∧ w'.cell? ⟨w4.heap.size, 0, none⟩ = some (.int .u32 u) ∧ w'.cell? ⟨w4.heap.size, 1, none⟩ = some (.int .u32 g) ∧ w'.cell? ⟨w4.heap.size, 2, none⟩ = some (.slice A4 l.length c4)) (first | exact ⟨⟨HX5.out.c0, HX5.out.c1, HX5.out.c2⟩, HY5.out.c0, HY5.out.c1, HY5.out.c2⟩ | go_keep)
      (first | (go_at_call 36; refine (creds_In.calls k u g A4 c4 l x b _ (C_front HT5.out) (Nat.le_of_lt hc4) HIN.out).mono ?_; rintro e w6 ⟨rfl, hb⟩; have HX6 := Aside0.mk (HX5.out.below hb); have HY6 := Aside0.mk (HY5.out.below hb); have HB6 := Aside0.mk (below_then HB5.out HB5.out.size hb); have HR6 := Aside0.mk (Kd.C_below HR5.out hb); have HT6 := Aside0.mk (Kd.C_below HT5.out hb); clear hb HX5 HY5 HB5 HR5 HT5; have HX5 := HX6; have HY5 := HY6; have HB5 := HB6; have HR5 := HR6; have HT5 := HT6; clear HX6 HY6 HB6 HR6 HT6) | (go_at_call 37; refine (wharfingerref05_In.calls k u g A c l x b _ HR5.out HC.out HREF.out).mono ?_; rintro e w6 ⟨rfl, hb⟩; have HX6 := Aside0.mk (HX5.out.below hb); have HY6 := Aside0.mk (HY5.out.below hb); have HB6 := Aside0.mk (below_then HB5.out HB5.out.size hb); have HR6 := Aside0.mk (Kd.C_below HR5.out hb); have HT6 := Aside0.mk (Kd.C_below HT5.out hb); clear hb HX5 HY5 HB5 HR5 HT5; have HX5 := HX6; have HY5 := HY6; have HB5 := HB6; have HR5 := HR6; have HT5 := HT6; clear HX6 HY6 HB6 HR6 HT6) | (go_at_call 38; refine (leftCred_calls u g A4 c4 A c l _ HT5.out hc4 HR5.out HC.out (by omega)).mono ?_; rintro e w6 ⟨rfl, hb⟩; have HX6 := Aside0.mk (HX5.out.below hb); have HY6 := Aside0.mk (HY5.out.below hb); have HB6 := Aside0.mk (below_then HB5.out HB5.out.size hb); have HR6 := Aside0.mk (Kd.C_below HR5.out hb); have HT6 := Aside0.mk (Kd.C_below HT5.out hb); clear hb HX5 HY5 HB5 HR5 HT5; have HX5 := HX6; have HY5 := HY6; have HB5 := HB6; have HR5 := HR6; have HT5 := HT6; clear HX6 HY6 HB6 HR6 HT6) | (go_at_call 40; refine (creds_Nobody.calls 65534 65534 [] _ rfl).mono ?_; rintro e w6 ⟨v6, rfl, ho6, hb⟩; obtain ⟨A6, c6, rfl, hc6, hR6⟩ := Kd.R_reads ho6; have HQ6 := Aside0.mk hR6; clear ho6 hR6; have HX6 := Aside0.mk (HX5.out.below hb); have HY6 := Aside0.mk (HY5.out.below hb); have HB6 := Aside0.mk (below_then HB5.out HB5.out.size hb); have HR6 := Aside0.mk (Kd.C_below HR5.out hb); have HT6 := Aside0.mk (Kd.C_below HT5.out hb); clear hb HX5 HY5 HB5 HR5 HT5; have HX5 := HX6; have HY5 := HY6; have HB5 := HB6; have HR5 := HR6; have HT5 := HT6; clear HX6 HY6 HB6 HR6 HT6) | (go_at_call 41; refine (wharfingerref05_Nobody.calls 65534 65534 [] _ rfl).mono ?_; rintro e w7 ⟨v7, rfl, ho7, hb⟩; obtain ⟨A7, c7, rfl, hc7, hR7⟩ := Kd.R_reads ho7; have HQ7 := Aside0.mk hR7; have HQ8 := Aside0.mk (Kd.C_below HQ6.out hb); clear ho7 hR7; have HX6 := Aside0.mk (HX5.out.below hb); have HY6 := Aside0.mk (HY5.out.below hb); have HB6 := Aside0.mk (below_then HB5.out HB5.out.size hb); have HR6 := Aside0.mk (Kd.C_below HR5.out hb); have HT6 := Aside0.mk (Kd.C_below HT5.out hb); clear hb HX5 HY5 HB5 HR5 HT5; have HX5 := HX6; have HY5 := HY6; have HB5 := HB6; have HR5 := HR6; have HT5 := HT6; clear HX6 HY6 HB6 HR6 HT6) | (go_at_call 39; refine (wharfingerlaw01_SameCred.calls 1 65534 65534 A6 c6 [] 65534 65534 A7 c7 [] true _ HQ8.out hc6 HQ7.out hc7 HNS.out).mono ?_; rintro e w6 ⟨rfl, hb⟩; have HX6 := Aside0.mk (HX5.out.below hb); have HY6 := Aside0.mk (HY5.out.below hb); have HB6 := Aside0.mk (below_then HB5.out HB5.out.size hb); have HR6 := Aside0.mk (Kd.C_below HR5.out hb); have HT6 := Aside0.mk (Kd.C_below HT5.out hb); clear hb HX5 HY5 HB5 HR5 HT5; have HX5 := HX6; have HY5 := HY6; have HB5 := HB6; have HR5 := HR6; have HT5 := HT6; clear HX6 HY6 HB6 HR6 HT6))
    go_wp2
    go_ret
    exact ⟨rfl, HB5.out⟩
end Go.Proofs.Ytncplnobmiljfaa.Hand
