import Derived.Test.YtncplnobmiljfaaGC1
import Derived.Test.YtncplnobmiljfaaB03
namespace Go.Proofs.Ytncplnobmiljfaa.Hand
open Go.RowKit Go.Proofs.Ytncplnobmiljfaa.GB Go.Proofs.Ytncplnobmiljfaa.GC Go.Proofs.YtncplnobmiljfaaW.PrintWords Go.Proofs.YtncplnobmiljfaaW.PrintLast Go.Proofs.YtncplnobmiljfaaW.PrintMore
set_option linter.unusedVariables false
set_option linter.unusedSimpArgs false

def whoB : List Int := [0,0,0,7,0,0,0,2,97,98,0,0,0,0,0,1,0,0,0,2,0,0,0,1,0,0,0,3]
theorem who_put : creds_Put.f 40 7 ⟨#[97, 98]⟩ 1 2 [3] = some (whoB, 0) := by kernel_rfl
theorem who_get : creds_Get.f whoB = some (7, ⟨#[97, 98]⟩, 1, 2, [3], 0) := by kernel_rfl
theorem nil_get : creds_Get.f [] = some (0, ⟨#[]⟩, 0, 0, [], 4) := by kernel_rfl
theorem who_same : wharfingerlaw01_SameCred.f 40 1 2 [3] 1 2 [3] = some true := by kernel_rfl
theorem who_in2 : creds_In.f 40 1 2 [3] 2 = some true := by kernel_rfl
theorem who_in3 : creds_In.f 40 1 2 [3] 3 = some true := by kernel_rfl
theorem who_in1 : creds_In.f 40 1 2 [3] 1 = some false := by kernel_rfl
theorem who_str : strOfNums whoB = ⟨#[0,0,0,7,0,0,0,2,97,98,0,0,0,0,0,1,0,0,0,2,0,0,0,1,0,0,0,3]⟩ := by kernel_rfl
def wharfingerlaw05_alive.f : Option Bool := some true
set_option maxHeartbeats 4000000 in
set_option maxRecDepth 100000 in
theorem wharfingerlaw05_alive.calls (r : Bool) (w : World) (h : wharfingerlaw05_alive.f = some r) :
    Calls Try.prog 42 #[] w fun e w' => e = .returned (.bool r) ∧ Below w.heap.size w w' := by
  obtain rfl := Option.some.inj h
  clear h
  have kf : ∀ (x y z : Value) W, (Instr.field 43 (.agg #[x, y, z]) 0).run Try.prog W = .ok x W := fun _ _ _ _ => by kernel_rfl
  have HL := Aside0.mk (fun W => lit_readsK .u32 33 W [3] #[.int .u32 3] (0, 0) rfl (by decide))
  obtain ⟨wb, hwb⟩ : ∃ wb, (w.alloc (.cells #[.int .u32 3] 33)).alloc (.cells #[.int .u32 1, .int .u32 2, .slice (some ⟨w.heap.size, 0, none⟩) 1 1] 43) = wb := ⟨_, rfl⟩
  have HB0 := Aside0.mk (show Below w.heap.size w wb from hwb ▸ below_alloc (below_alloc (Below.refl w.heap.size w) (.cells #[.int .u32 3] 33)) _)
  have HW := Aside0.mk (show Kd.C (Kd.int .u32) wb (some ⟨w.heap.size, 0, none⟩) 1 [3] from hwb ▸ Kd.C_alloc (HL.out w) _)
  have HC0 := Aside0.mk (show Cred3 wb (w.heap.size + 1) 1 2 (.slice (some ⟨w.heap.size, 0, none⟩) 1 1) from hwb ▸ (by
    have h1 := World.alloc_heap_new (w.alloc (.cells #[.int .u32 3] 33)) (.cells #[.int .u32 1, .int .u32 2, .slice (some ⟨w.heap.size, 0, none⟩) 1 1] 43)
    unfold Cred3
    simpa using h1))
  have HWB := Aside0.mk hwb
  clear hwb
  go_enter Try.func42, Try.ntmps42
  go_wp2_with fail
  rw [HWB.out]
  refine (creds_Put.calls 40 7 ⟨#[97, 98]⟩ 1 2 (some ⟨w.heap.size, 0, none⟩) 1 [3] whoB 0 _ HW.out (by decide) who_put).mono ?_
  rintro e w1 ⟨v1, rfl, ho1, hb1⟩
  obtain ⟨A1, c1, rfl, hc1, hR1⟩ := OB_reads ho1
  have HB1 := Aside0.mk (below_then HB0.out HB0.out.size hb1)
  have HW1 := Aside0.mk (Kd.C_below HW.out hb1)
  have HD1 := Aside0.mk (show Cred3 w1 (w.heap.size + 1) 1 2 (.slice (some ⟨w.heap.size, 0, none⟩) 1 1) from (hb1.block _ HC0.out.lt).trans HC0.out)
  have HR1 := Aside0.mk hR1
  have HC1 := Aside0.mk hc1
  clear hb1 ho1 hR1 hc1 HW HL HB0 HC0 HWB
  go_wp2_with fail
  refine (creds_Get.calls A1 c1 whoB 7 ⟨#[97, 98]⟩ 1 2 [3] 0 _ HR1.out HC1.out who_get).mono ?_
  rintro e w2 ⟨v2, rfl, ho2, hb2⟩
  obtain ⟨A2, c2, rfl, hc2, hR2⟩ := Kd.R_reads ho2
  have HB2 := Aside0.mk (below_then HB1.out HB1.out.size hb2)
  have HW2 := Aside0.mk (Kd.C_below HW1.out hb2)
  have HD2 := Aside0.mk (show Cred3 w2 (w.heap.size + 1) 1 2 (.slice (some ⟨w.heap.size, 0, none⟩) 1 1) from (hb2.block _ HD1.out.lt).trans HD1.out)
  have HR2 := Aside0.mk (Kd.C_below HR1.out hb2)
  have HQ2 := Aside0.mk hR2
  have HC2 := Aside0.mk hc2
  clear hb2 ho2 hR2 hc2 HW1 HD1 HR1 HB1
  go_wp2_with fail
  obtain ⟨wc, hwc⟩ : ∃ wc, w2.alloc (.cells #[.int .u32 1, .int .u32 2, .slice A2 1 c2] 43) = wc := ⟨_, rfl⟩
  have hbc : Below w2.heap.size w2 wc := hwc ▸ below_alloc (Below.refl _ _) _
  have HD3 := Aside0.mk (show Cred3 wc (w.heap.size + 1) 1 2 (.slice (some ⟨w.heap.size, 0, none⟩) 1 1) from (hbc.block _ HD2.out.lt).trans HD2.out)
  have HE3 := Aside0.mk (show Cred3 wc w2.heap.size 1 2 (.slice A2 1 c2) from hwc ▸ World.alloc_heap_new w2 _)
  have HB3 := Aside0.mk (below_then HB2.out HB2.out.size hbc)
  have HW3 := Aside0.mk (Kd.C_below HW2.out hbc)
  have HR3 := Aside0.mk (Kd.C_below HR2.out hbc)
  have HQ3 := Aside0.mk (Kd.C_below HQ2.out hbc)
  rw [hwc]
  clear hbc hwc HD2 HB2 HW2 HR2 HQ2
  refine (creds_Get.calls none 0 [] 0 ⟨#[]⟩ 0 0 [] 4 _ (Kd.C_of_reads (d := (0 : Int)) (h1 := fun _ => rfl) ⟨rfl, by decide, fun h => absurd h (by decide)⟩) (Nat.le_refl _) nil_get).mono ?_
  rintro e w4 ⟨v4, rfl, ho4, hb4⟩
  obtain ⟨A4, c4, rfl, hc4, hR4⟩ := Kd.R_reads ho4
  have HD4 := Aside0.mk (show Cred3 w4 (w.heap.size + 1) 1 2 (.slice (some ⟨w.heap.size, 0, none⟩) 1 1) from (hb4.block _ HD3.out.lt).trans HD3.out)
  have HE4 := Aside0.mk (show Cred3 w4 w2.heap.size 1 2 (.slice A2 1 c2) from (hb4.block _ HE3.out.lt).trans HE3.out)
  have HB4 := Aside0.mk (below_then HB3.out HB3.out.size hb4)
  have HW4 := Aside0.mk (Kd.C_below HW3.out hb4)
  have HR4 := Aside0.mk (Kd.C_below HR3.out hb4)
  have HQ4 := Aside0.mk (Kd.C_below HQ3.out hb4)
  clear hb4 ho4 hc4 hR4 HD3 HE3 HB3 HW3 HR3 HQ3
  have hbd := below_alloc (Below.refl w4.heap.size w4) (.cells #[.int .u32 0, .int .u32 0, .slice A4 0 c4] 43)
  obtain ⟨wd, hwd⟩ : ∃ wd, w4.alloc (.cells #[.int .u32 0, .int .u32 0, .slice A4 0 c4] 43) = wd := ⟨_, rfl⟩
  rw [hwd] at hbd
  have HB5 := Aside0.mk (below_then HB4.out HB4.out.size hbd)
  have HW5 := Aside0.mk (Kd.C_below HW4.out hbd)
  have HQ5 := Aside0.mk (Kd.C_below HQ4.out hbd)
  have HD5 : Cred3 wd (w.heap.size + 1) 1 2 (.slice (some ⟨w.heap.size, 0, none⟩) 1 1) := (hbd.block _ HD4.out.lt).trans HD4.out
  have HE5 : Cred3 wd w2.heap.size 1 2 (.slice A2 1 c2) := (hbd.block _ HE4.out.lt).trans HE4.out
  have hs1 : (convert 22 9 (.slice A1 whoB.length c1)).run Try.prog wd = .ok (.string (strOfNums whoB)) wd := Kd.C_string (P := Try.prog) Try.underlying22 Try.underlying5 Try.underlying9 (Kd.C_below HR4.out hbd)
  rw [who_str] at hs1
  have x0 := HD5.c0
  have x1 := HD5.c1
  have x2 := HD5.c2
  have y0 := HE5.c0
  have y1 := HE5.c1
  have y2 := HE5.c2
  rw [← hwd] at hs1 x0 x1 x2 y0 y1 y2
  have HD6 := Aside0.mk HD5
  have HE6 := Aside0.mk HE5
  have HWD := Aside0.mk hwd
  clear HD5 HE5 hbd hwd HB4 HW4 HR4 HQ4 HD4 HE4
  go_wp2_with fail
  rw [HWD.out]
  refine (wharfingerlaw01_SameCred.calls 40 1 2 A2 c2 [3] 1 2 (some ⟨w.heap.size, 0, none⟩) 1 [3] true _ HQ5.out HC2.out HW5.out (by decide) who_same).mono ?_
  rintro e w16 ⟨rfl, hb⟩
  have HE7 := Aside0.mk (show Cred3 w16 w2.heap.size 1 2 (.slice A2 1 c2) from (hb.block _ HE6.out.lt).trans HE6.out)
  have HB6 := Aside0.mk (below_then HB5.out HB5.out.size hb)
  have HQ6 := Aside0.mk (Kd.C_below HQ5.out hb)
  clear hb
  have q0_6 := HE7.out.c0
  have q1_6 := HE7.out.c1
  have q2_6 := HE7.out.c2
  go_wp2_with fail
  refine (creds_In.calls 40 1 2 A2 c2 [3] 2 true _ HQ6.out HC2.out who_in2).mono ?_
  rintro e w17 ⟨rfl, hb⟩
  have HE8 := Aside0.mk (show Cred3 w17 w2.heap.size 1 2 (.slice A2 1 c2) from (hb.block _ HE7.out.lt).trans HE7.out)
  have HB7 := Aside0.mk (below_then HB6.out HB6.out.size hb)
  have HQ7 := Aside0.mk (Kd.C_below HQ6.out hb)
  clear hb
  have q0_7 := HE8.out.c0
  have q1_7 := HE8.out.c1
  have q2_7 := HE8.out.c2
  go_wp2_with fail
  refine (creds_In.calls 40 1 2 A2 c2 [3] 3 true _ HQ7.out HC2.out who_in3).mono ?_
  rintro e w18 ⟨rfl, hb⟩
  have HE9 := Aside0.mk (show Cred3 w18 w2.heap.size 1 2 (.slice A2 1 c2) from (hb.block _ HE8.out.lt).trans HE8.out)
  have HB8 := Aside0.mk (below_then HB7.out HB7.out.size hb)
  have HQ8 := Aside0.mk (Kd.C_below HQ7.out hb)
  clear hb
  have q0_8 := HE9.out.c0
  have q1_8 := HE9.out.c1
  have q2_8 := HE9.out.c2
  go_wp2_with fail
  refine (creds_In.calls 40 1 2 A2 c2 [3] 1 false _ HQ8.out HC2.out who_in1).mono ?_
  rintro e w19 ⟨rfl, hb⟩
  have HE10 := Aside0.mk (show Cred3 w19 w2.heap.size 1 2 (.slice A2 1 c2) from (hb.block _ HE9.out.lt).trans HE9.out)
  have HB9 := Aside0.mk (below_then HB8.out HB8.out.size hb)
  have HQ9 := Aside0.mk (Kd.C_below HQ8.out hb)
  clear hb
  have q0_9 := HE10.out.c0
  have q1_9 := HE10.out.c1
  have q2_9 := HE10.out.c2
  go_wp2_with fail
  refine (creds_Nobody.calls 65534 65534 [] _ rfl).mono ?_
  rintro e w20 ⟨v20, rfl, ho20, hb⟩
  have HB10 := Aside0.mk (below_then HB9.out HB9.out.size hb)
  obtain ⟨A20, c20, rfl, _, _⟩ := Kd.R_reads ho20
  clear hb ho20
  go_wp2
  go_ret
  exact ⟨rfl, HB10.out⟩
end Go.Proofs.Ytncplnobmiljfaa.Hand
