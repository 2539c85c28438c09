import Derived.Test.YtoalknneifpehaaDoorS1
import Derived.Lib.SlBytesConst
namespace Go.Proofs.YtoalknneifpehaaDoor.Hand
open Go.RowKit Go.Proofs.YtoalknneifpehaaDoorW.PrintWords Go.Proofs.YtoalknneifpehaaDoorW.PrintLast Go.Proofs.YtoalknneifpehaaDoorW.PrintMore
set_option linter.unusedVariables false
set_option linter.unusedSimpArgs false

def strings_Put.f (a0 : ByteArray) : Option (List Int) := opaque_Put.f (bytesOf a0)
set_option maxHeartbeats 1000000 in
theorem strings_Put.calls (a0 : ByteArray) (r : List Int) (w : World) (h : strings_Put.f a0 = some r) :
    Calls Tryd.prog 61 #[.string a0] w fun e w' => ∃ v0_ : Value, e = .returned (v0_) ∧ Kd.R (Kd.int .u8) 5 w' w.heap.size (fun _ => True) v0_ r ∧ Below w.heap.size w w' := by
  unfold strings_Put.f at h
  have hs : a0.size ≤ 140737488355300 := by
    unfold opaque_Put.f at h
    by_cases hl : (bytesOf a0).length ≤ 140737488355300
    · rwa [bytesOf_length] at hl
    · rw [if_neg hl] at h; cases h
  have kb := fun W => print_bytes (P := Tryd.prog) 9 26 5 Tryd.underlying9 Tryd.underlying26 Tryd.underlying5 a0 W
  have HH := Aside0.mk h
  have HS := Aside0.mk hs
  clear h hs
  go_enter Tryd.func61, Tryd.ntmps61
  go_wp2_with fail
  have hr : RB (Lib.bytesWorld w 5 a0) (some ⟨w.heap.size, 0, none⟩) (bytesOf a0) :=
    Kd.C_of_reads (d := (0 : Int)) (h1 := fun _ => rfl) (by have := bytes_reads w 5 a0 (by have := HS.out; omega); rw [← bytesOf_length] at this; exact this)
  have hcall := opaque_Put.calls (some ⟨w.heap.size, 0, none⟩) (grownCap w a0.size 0 5) (bytesOf a0) r (Lib.bytesWorld w 5 a0) hr (by rw [bytesOf_length]; exact grownCap_ge _ _ _ _) HH.out
  rw [bytesOf_length] at hcall
  refine hcall.mono ?_
  rintro e w1 ⟨v1, rfl, ho1, hb1⟩
  go_wp2
  go_ret
  have hb0 := bytes_below (Below.refl w.heap.size w) (Nat.le_refl _) 5 a0
  exact ⟨v1, rfl, Kd.R_lower ho1 hb0.size, below_then hb0 hb0.size hb1⟩

def strings_Get.f (l0 : List Int) (a1 : Int) : Option (ByteArray × Int × Int) := (opaque_Get.f l0 a1).map fun r => (strOfNums r.1, r.2.1, r.2.2)
set_option maxHeartbeats 1000000 in
theorem strings_Get.calls (A0 : Option Addr) (c0 : Nat) (l0 : List Int) (a1 : Int) (r1 : ByteArray) (r2 r3 : Int) (w : World) (hr0 : Kd.C (Kd.int .u8) w A0 l0.length l0) (hc0 : l0.length ≤ c0) (h : strings_Get.f l0 a1 = some (r1, r2, r3)) :
    Calls Tryd.prog 106 #[.slice A0 l0.length c0, .int .i64 a1] w fun e w' => e = .returned (.tuple #[.string r1, .int .i64 r2, .int .i64 r3]) ∧ Below w.heap.size w w' := by
  unfold strings_Get.f at h
  obtain ⟨⟨xs, n, er⟩, hg, he⟩ := Option.map_eq_some_iff.1 h
  simp only [Prod.mk.injEq] at he
  obtain ⟨rfl, rfl, rfl⟩ := he
  have HG := Aside0.mk hg
  have HR := Aside0.mk hr0
  have HC := Aside0.mk hc0
  clear h hg hr0 hc0
  go_enter Tryd.func106, Tryd.ntmps106
  go_wp2_with fail
  refine (opaque_Get.calls _ _ _ _ _ _ _ _ HR.out HC.out HG.out).mono ?_
  rintro e w1 ⟨v1, rfl, ho1, hb1⟩
  obtain ⟨A1, c1, rfl, _, hR1⟩ := OB_reads ho1
  have hs1 : (convert 26 9 (.slice A1 xs.length c1)).run Tryd.prog w1 = .ok (.string (strOfNums xs)) w1 := Kd.C_string (P := Tryd.prog) Tryd.underlying26 Tryd.underlying5 Tryd.underlying9 hR1
  have HB1 := Aside0.mk hb1
  clear ho1 hR1 hb1
  go_wp2
  go_ret3
  exact ⟨rfl, HB1.out⟩
end Go.Proofs.YtoalknneifpehaaDoor.Hand
