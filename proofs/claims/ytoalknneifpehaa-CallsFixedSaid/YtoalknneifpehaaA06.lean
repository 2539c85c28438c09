import Derived.Test.YtoalknneifpehaaA06p
import Derived.Test.YtoalknneifpehaaG6S1
namespace Go.Proofs.Ytoalknneifpehaa.Hand
open Go.RowKit Go.Proofs.Ytoalknneifpehaa.GB Go.Proofs.Ytoalknneifpehaa.GC Go.Proofs.YtoalknneifpehaaW.PrintWords Go.Proofs.YtoalknneifpehaaW.PrintLast Go.Proofs.YtoalknneifpehaaW.PrintMore
set_option linter.unusedVariables false
set_option linter.unusedSimpArgs false

theorem slice_head {w : World} {base n c : Nat} {A : Option Addr} {xs : List Int} (h : OB w base (.slice A n c) xs) (hn : 0 < xs.length) : ∃ g, A = some ⟨g, 0, none⟩ := by
  cases A with
  | none =>
    obtain ⟨rfl, _, hr⟩ := Kd.R_reads' h
    obtain ⟨ad, h1, _⟩ := hr.2.2 hn
    cases h1
  | some ad =>
    obtain ⟨g, rfl⟩ := Kd.R_head h
    exact ⟨g, rfl⟩
theorem C_take {W : World} {A : Option Addr} {xs : List Int} (m : Nat) (hm : m ≤ xs.length) (h : Kd.C (Kd.int .u8) W A xs.length xs) : Kd.C (Kd.int .u8) W A (xs.take m).length (xs.take m) := by
  obtain ⟨h1, h2, h3⟩ := h
  refine ⟨rfl, by rw [List.length_take]; omega, fun hlt => ?_⟩
  obtain ⟨ad, rfl, hc⟩ := h3 (by rw [List.length_take] at hlt; omega)
  exact ⟨ad, rfl, fun j p hj => hc j p (by
    rw [List.getElem?_take] at hj
    split at hj
    · exact hj
    · cases hj)⟩
def wharfingerlaw06_alive.f : Option Bool := some true
set_option maxHeartbeats 4000000 in
set_option maxRecDepth 100000 in
theorem wharfingerlaw06_alive.calls (r : Bool) (w : World) (h : wharfingerlaw06_alive.f = some r) :
    Calls Try.prog 8 #[] w fun e w' => e = .returned (.bool r) ∧ Below w.heap.size w w' := by
  obtain rfl := Option.some.inj h
  clear h
  have hn32 : ∀ (W : World), Kd.C (Kd.int .u32) W none 0 [] := fun W => Kd.C_nil _ _
  have hn8 : ∀ (W : World), Kd.C (Kd.int .u8) W none 0 [] := fun W => Kd.C_nil _ _
  have HN32 := Aside0.mk hn32
  have HN8 := Aside0.mk hn8
  clear hn32 hn8
  go_enter Try.func8, Try.ntmps8
  go_wp2_with fail
  refine (calls_Put.calls 1 100003 3 0 0 ByteArray.empty 0 0 0 none 0 [] none 0 [] smallL 0 _ (HN32.out _) (Nat.le_refl _) (HN8.out _) (Nat.le_refl _) small_put).mono ?_
  rintro e w1 ⟨v1, rfl, ho1, hb1⟩
  obtain ⟨A1, c1, rfl, hc1, hR1⟩ := OB_reads ho1
  have HB1 := Aside0.mk hb1
  have HR1 := Aside0.mk hR1
  have HC1 := Aside0.mk hc1
  clear hb1 ho1 hR1 hc1
  go_wp2_with fail
  refine (small_calls _).mono ?_
  rintro e w2 ⟨v2, rfl, ho2, hb2⟩
  obtain ⟨A2, c2, rfl, hc2, _⟩ := OB_reads ho2
  have HB2 := Aside0.mk hb2
  have HR2 := Aside0.mk (Kd.C_below HR1.out hb2)
  have HO2 := Aside0.mk ho2
  clear hb2 ho2 hc2
  have HL := Aside0.mk (lit_readsC .u8 5 w2 [97, 98] #[.int .u8 97, .int .u8 98] (0, 0) rfl (by decide))
  have HO2a := Aside0.mk (Kd.R_alloc HO2.out (.cells #[.int .u8 97, .int .u8 98] 5))
  have HB2a := Aside0.mk (HB2.out.alloc HB2.out.size (.cells #[.int .u8 97, .int .u8 98] 5))
  go_wp2_with (at_builtin; refine Kd.R_append_row (Value.int .u8) (0 : Int) (h1 := fun _ => rfl) (w0 := w1) w1.heap.size rfl _ _ 26 5 (.int .u8 0) 1 rfl Try.underlying26 infoB rfl (by decide) _ smallL [97, 98] (some ⟨w2.heap.size, 0, none⟩) 2 2 (fun _ => True) rfl rfl (fun _ _ => trivial) HO2a.out HL.out HB2a.out HB2a.out.size (by decide) ?_; intro v3 w3 ho3 hb3 hg3 hat3; obtain ⟨A3, c3, rfl, hc3, hR3⟩ := OB_reads ho3)
  have hcall := calls_Get.calls A3 c3 (smallL ++ [97, 98]) 1 100003 3 0 0 ByteArray.empty 0 0 0 [] [97, 98] 0 w3 hR3 hc3 small_get
  rw [show (smallL ++ ([97, 98] : List Int)).length = smallL.length + 2 from List.length_append] at hcall
  have HB3 := Aside0.mk hb3
  clear ho3 hb3 hg3 hat3 hc3 hR3 HO2 HO2a HB2a HL HB2 HR2
  refine hcall.mono ?_
  clear hcall
  rintro e w4 ⟨v4, v5, rfl, ho4, ho5, hb4⟩
  obtain ⟨A4, c4, rfl, _⟩ := Kd.R_reads ho4
  obtain ⟨A5, c5, rfl, hc5, hR5⟩ := OB_reads ho5
  have HB4 := Aside0.mk (below_then HB3.out HB3.out.size hb4)
  have HR5 := Aside0.mk hR5
  have HC5 := Aside0.mk hc5
  clear hb4 ho4 ho5 hR5 hc5 HB3
  go_wp2_with fail
  obtain ⟨wc, hwc⟩ : ∃ wc, w4.alloc (.cells #[.int .u32 1, .int .u32 100003, .int .u32 3, .int .u32 0, .int .u32 0, .string ByteArray.empty, .int .u32 0, .int .u32 0, .int .u32 0, .slice A4 0 c4, .slice A5 2 c5] 28) = wc := ⟨_, rfl⟩
  have hbc : Below w4.heap.size w4 wc := hwc ▸ below_alloc (Below.refl _ _) _
  have HK6 := Aside0.mk (show Call11 wc w4.heap.size 1 100003 3 0 0 ByteArray.empty 0 0 0 (.slice A4 0 c4) (.slice A5 2 c5) from hwc ▸ call11_new w4 1 100003 3 0 0 ByteArray.empty 0 0 0 (.slice A4 0 c4) (.slice A5 2 c5))
  have HB6 := Aside0.mk (below_then HB4.out HB4.out.size hbc)
  have HV6 := Aside0.mk (Kd.C_below HR5.out hbc)
  have HS6 := Aside0.mk (show w1.heap.size ≤ w4.heap.size from HB4.out.size)
  rw [hwc]
  clear hbc hwc HR5 HB4
  refine (small_calls _).mono ?_
  rintro e w7 ⟨v7, rfl, ho7, hb7⟩
  obtain ⟨A7, c7, rfl, hc7, hR7⟩ := OB_reads ho7
  have HB7 := Aside0.mk (below_then HB6.out HB6.out.size hb7)
  have HK7 := Aside0.mk (HK6.out.below hb7)
  have HT7 := Aside0.mk (C_take 39 (by decide) hR7)
  have HC7 := Aside0.mk hc7
  have h39 : 39 ≤ c7 := Nat.le_trans (by decide) hc7
  have HV7 := Aside0.mk (Kd.C_below HV6.out hb7)
  clear ho7 hb7 hc7 hR7 HB6 HK6 HV6
  go_wp2_with fail
  have hcall := calls_Get.calls A7 c7 (smallL.take 39) 0 0 0 0 0 ByteArray.empty 0 0 0 [] [] 4 w7 HT7.out h39 small_cut
  rw [show (smallL.take 39).length = 39 from rfl] at hcall
  refine hcall.mono ?_
  clear hcall h39
  rintro e w8 ⟨v8, v9, rfl, ho8, ho9, hb8⟩
  obtain ⟨A8, c8, rfl, _⟩ := Kd.R_reads ho8
  obtain ⟨A9, c9, rfl, _⟩ := OB_reads ho9
  have HB8 := Aside0.mk (below_then HB7.out HB7.out.size hb8)
  have HK8 := Aside0.mk (HK7.out.below hb8)
  have HV8 := Aside0.mk (Kd.C_below HV7.out hb8)
  clear hb8 ho8 ho9 HT7 HC7 HB7 HK7 HV7
  go_wp2_with fail
  obtain ⟨wd, hwd⟩ : ∃ wd, w8.alloc (.cells #[.int .u32 0, .int .u32 0, .int .u32 0, .int .u32 0, .int .u32 0, .string ByteArray.empty, .int .u32 0, .int .u32 0, .int .u32 0, .slice A8 0 c8, .slice A9 0 c9] 28) = wd := ⟨_, rfl⟩
  have hbd : Below w8.heap.size w8 wd := hwd ▸ below_alloc (Below.refl _ _) _
  have HB10 := Aside0.mk (below_then HB8.out HB8.out.size hbd)
  have HK10 := Aside0.mk (HK8.out.below hbd)
  have HV10 := Aside0.mk (Kd.C_below HV8.out hbd)
  rw [hwd]
  clear hbd hwd HB8 HK8 HV8
  refine (small_calls _).mono ?_
  rintro e w11 ⟨v11, rfl, ho11, hb11⟩
  obtain ⟨A11, c11, rfl, hc11, _⟩ := OB_reads ho11
  obtain ⟨g, rfl⟩ := slice_head ho11 (by decide)
  have hcell := Kd.R_cell (h1 := fun _ => rfl) (0 : Int) (show (Kd.scalar (Value.int .u8) (fun _ => rfl)).R 5 w11 wd.heap.size (fun _ => True) (.slice (some ⟨g, 0, none⟩) smallL.length c11) smallL from ho11) 7 (by decide) (by decide)
  have x7 : w11.cell? ⟨g, 7, none⟩ = some (.int .u8 0) := hcell.1
  have y7 : w11.frozen? ⟨g, 7, none⟩ = false := hcell.2
  have hput := Kd.R_put (h1 := fun _ => rfl) (show (Kd.scalar (Value.int .u8) (fun _ => rfl)).R 5 w11 wd.heap.size (fun _ => True) (.slice (some ⟨g, 0, none⟩) smallL.length c11) smallL from ho11) 7 1
  have HO11 := Aside0.mk (show OB (w11.setCell ⟨g, 7, none⟩ (.int .u8 1)) wd.heap.size (.slice (some ⟨g, 0, none⟩) smallL.length c11) (smallL.set 7 1) from hput.1)
  have HB11 := Aside0.mk (below_then HB10.out HB10.out.size hb11)
  have hg : wd.heap.size ≤ g := Kd.R_base ho11 g rfl
  have HBG := Aside0.mk (show Below wd.heap.size wd (w11.setCell ⟨g, 7, none⟩ (.int .u8 1)) from hb11.setCell (p := ⟨g, 7, none⟩) hg _)
  have HC11 := Aside0.mk hc11
  clear ho11 hcell hput hb11 hg hc11
  have HK11 := Aside0.mk (HK10.out.below HBG.out)
  have HV11 := Aside0.mk (Kd.C_below HV10.out HBG.out)
  have HD11 := Aside0.mk (below_then HB10.out HB10.out.size HBG.out)
  clear HK10 HV10 HB10 HB11
  go_wp2_with fail
  have hcall := calls_Get.calls (some ⟨g, 0, none⟩) c11 (smallL.set 7 1) 0 0 0 0 0 ByteArray.empty 0 0 0 [] [] 5 (w11.setCell ⟨g, 7, none⟩ (.int .u8 1)) (Kd.R_reads' HO11.out).2.2 HC11.out small_bad
  rw [List.length_set] at hcall
  refine hcall.mono ?_
  clear hcall
  rintro e w12 ⟨v12, v13, rfl, ho12, ho13, hb12⟩
  obtain ⟨A12, c12, rfl, _⟩ := Kd.R_reads ho12
  obtain ⟨A13, c13, rfl, _⟩ := OB_reads ho13
  have HB12 := Aside0.mk (below_then HD11.out HD11.out.size hb12)
  have HK12 := Aside0.mk (HK11.out.below hb12)
  have HV12 := Aside0.mk (Kd.C_below HV11.out hb12)
  clear x7 y7 hb12 ho12 ho13 HD11 HK11 HV11 HO11 HC11 HBG
  go_wp2_with fail
  obtain ⟨we, hwe⟩ : ∃ we, w12.alloc (.cells #[.int .u32 0, .int .u32 0, .int .u32 0, .int .u32 0, .int .u32 0, .string ByteArray.empty, .int .u32 0, .int .u32 0, .int .u32 0, .slice A12 0 c12, .slice A13 0 c13] 28) = we := ⟨_, rfl⟩
  have hbe : Below w12.heap.size w12 we := hwe ▸ below_alloc (Below.refl _ _) _
  have HB14 := Aside0.mk (below_then HB12.out HB12.out.size hbe)
  have HK14 := Aside0.mk (HK12.out.below hbe)
  have HV14 := Aside0.mk (Kd.C_below HV12.out hbe)
  rw [hwe]
  clear hbe hwe HB12 HK12 HV12
  refine (calls_Put.calls 0 0 0 0 2 ByteArray.empty 0 0 0 none 0 [] none 0 [] [] 1 _ (HN32.out _) (Nat.le_refl _) (HN8.out _) (Nat.le_refl _) flavor2).mono ?_
  rintro e w15 ⟨v15, rfl, ho15, hb15⟩
  obtain ⟨A15, c15, rfl, _⟩ := OB_reads ho15
  have HB15 := Aside0.mk (below_then HB14.out HB14.out.size hb15)
  have HK15 := Aside0.mk (HK14.out.below hb15)
  have HV15 := Aside0.mk (Kd.C_below HV14.out hb15)
  clear ho15 hb15 HB14 HK14 HV14
  obtain ⟨Z, hZ⟩ : ∃ Z : List Int, Z = List.replicate (65536 : Int).toNat 0 := ⟨_, rfl⟩
  have HZ := Aside0.mk hZ
  have HLP := Aside0.mk (show calls_Put.f 0 0 0 0 0 ByteArray.empty 0 0 0 [] Z = some ([], 3) by rw [hZ, show (65536 : Int).toNat = 65536 from rfl]; exact long_put)
  clear hZ
  go_wp2_with ((with_reducible refine gate_dst (N := 46) rfl ?_); refine Kd.R_make (Kd.int .u8) (w0 := w15) w15.heap.size 5 rfl (N := 46) rfl 26 (.const (.int .i64 65536)) (.const (.int .i64 65536)) rfl 65536 rfl rfl Try.underlying26 (.int .u8 0) 1 infoB rfl (by decide) (by decide) 0 (ok := fun _ => True) (okp := fun _ => True) rfl (fun _ h => h) trivial (by decide) (by decide) (Below.refl _ _) (Nat.le_refl _) ?_; intro v16 w16 ho16 hb16 hg16 hat16; rw [← HZ.out] at ho16; clear hg16 hat16; obtain ⟨A16, c16, rfl, hc16, hR16⟩ := OB_reads ho16)
  refine (calls_Put.calls 0 0 0 0 0 ByteArray.empty 0 0 0 none 0 [] A16 c16 Z [] 3 _ (HN32.out _) (Nat.le_refl _) hR16 hc16 HLP.out).mono ?_
  rintro e w17 ⟨v17, rfl, ho17, hb17⟩
  obtain ⟨A17, c17, rfl, _⟩ := OB_reads ho17
  have hb18 := below_then hb16 hb16.size hb17
  have HB17 := Aside0.mk (below_then HB15.out HB15.out.size hb18)
  have HK17 := Aside0.mk (HK15.out.below hb18)
  have HV17 := Aside0.mk (Kd.C_below HV15.out hb18)
  clear ho16 ho17 hb16 hb17 hb18 hR16 hc16 HB15 HK15 HV15 HZ HLP
  go_wp2_with fail
  refine (small_calls _).mono ?_
  rintro e w19 ⟨v19, rfl, ho19, hb19⟩
  obtain ⟨A19, c19, rfl, hc19, hR19⟩ := OB_reads ho19
  have HB19 := Aside0.mk (below_then HB17.out HB17.out.size hb19)
  have HK19 := Aside0.mk (HK17.out.below hb19)
  have HV19 := Aside0.mk (Kd.C_below HV17.out hb19)
  have HR19 := Aside0.mk hR19
  have HC19 := Aside0.mk hc19
  clear ho19 hb19 hR19 hc19 HB17 HK17 HV17
  go_wp2_with fail
  refine (wharfingerlaw01_SameBytes.calls 41 A1 c1 smallL A19 c19 smallL true w19 (Kd.C_below HR1.out HB19.out) HC1.out HR19.out HC19.out small_same).mono ?_
  rintro e w20 ⟨rfl, ⟨nd, rfl⟩⟩
  have hs1 : (convert 26 9 (.slice A5 2 c5)).run Try.prog (w19.drewN nd) = .ok (.string (strOfNums [97, 98])) (w19.drewN nd) := Kd.C_string (P := Try.prog) Try.underlying26 Try.underlying5 Try.underlying9 (Kd.C_below HV19.out (pw_below_drewN (Below.refl _ _) nd))
  rw [body_str] at hs1
  have x1 : (w19.drewN nd).cell? ⟨w4.heap.size, 1, none⟩ = some (.int .u32 100003) := HK19.out.c1
  have x2 : (w19.drewN nd).cell? ⟨w4.heap.size, 2, none⟩ = some (.int .u32 3) := HK19.out.c2
  have x10 : (w19.drewN nd).cell? ⟨w4.heap.size, 10, none⟩ = some (.slice A5 2 c5) := HK19.out.c10
  go_wp2_with fail
  go_ret
  exact ⟨rfl, below_then HB1.out HB1.out.size (pw_below_drewN HB19.out nd)⟩
end Go.Proofs.Ytoalknneifpehaa.Hand
