import Derived.Test.YtclojfnmknknjaaH7
import Derived.Lib.SlBytesConst
namespace Go.Proofs.Ytclojfnmknknjaa.Hand
open Go.RowKit Go.Proofs.YtclojfnmknknjaaW.PrintWords Go.Proofs.YtclojfnmknknjaaW.PrintLast Go.Proofs.YtclojfnmknknjaaW.PrintMore
set_option linter.unusedVariables false
set_option linter.unusedSimpArgs false

theorem lit_reads (W : World) (xs : List Int) (cs : Array Value) (fr : Nat × Nat) (hcs : cs = (nums .u8 xs).toArray) (hl : xs.length ≤ 9223372036854775807) :
    RB (W.alloc (.cells cs 5 fr)) (some ⟨W.heap.size, 0, none⟩) xs := by
  subst hcs
  refine Kd.C_of_reads (d := (0 : Int)) (h1 := fun _ => rfl) ⟨rfl, hl, fun _ => ⟨_, rfl, fun j hj => ?_⟩⟩
  have h := cell_of_row (W.alloc (.cells (nums .u8 xs).toArray 5 fr)) W.heap.size j (nums .u8 xs).toArray 5 fr (heap_alloc_new W _)
  rw [add_plain, h]
  simp [nums, List.getD_eq_getElem?_getD, List.getElem?_eq_getElem hj]

theorem own_str {w : World} {base n : Nat} {A : Option Addr} {c : Nat} {xs : List Int} (h : OB w base (.slice A n c) xs) : (convert 22 9 (.slice A n c)).run Try.prog w = .ok (.string (strOfNums xs)) w := by
  obtain ⟨rfl, _, hC⟩ := Kd.R_reads' h
  exact Kd.C_string (P := Try.prog) Try.underlying22 Try.underlying5 Try.underlying9 hC

def wharfingerlaw02_alive.f : Option Bool := some true
set_option maxHeartbeats 4000000 in
set_option maxRecDepth 100000 in
theorem wharfingerlaw02_alive.calls (r : Bool) (w : World) (h : wharfingerlaw02_alive.f = some r) :
    Calls Try.prog 8 #[] w fun e w' => e = .returned (.bool r) ∧ Below w.heap.size w w' := by
  obtain rfl := Option.some.inj h
  clear h
  have kc := fun (w : World) (C : Array Value) (n c : Nat) => Lib.run_convert_bytes_const (P := Try.prog) w 22 5 C n c Try.underlying22 Try.underlying5
  go_enter Try.func8, Try.ntmps8
  go_wp2_with fail
  refine (opaque_Get.calls _ 9 [0, 0, 0, 1, 97, 0, 0, 0, 55] 1 [97] 8 0 _ (lit_reads _ _ _ _ rfl (by decide)) (by decide) (by decide)).mono ?_
  rintro e w1 ⟨v1, rfl, ho1, hb1⟩
  have HB1 := Aside0.mk (below_then (below_alloc (Below.refl w.heap.size w) _) (by simp) hb1)
  obtain ⟨A1, c1, rfl, hc1, hR1⟩ := OB_reads ho1
  have HR1 := Aside0.mk hR1
  clear hR1
  clear ho1 hb1
  go_wp2_with fail
  refine (opaque_Get.calls _ 8 [0, 0, 0, 1, 97, 0, 1, 0] 9 [] 0 5 _ (lit_reads _ _ _ _ rfl (by decide)) (by decide) (by decide)).mono ?_
  rintro e w2 ⟨v2, rfl, ho2, hb2⟩
  have HB2 := Aside0.mk (below_then (below_alloc HB1.out _) (by have := HB1.out.size; simp; omega) hb2)
  replace HR1 := Aside0.mk (Kd.C_below (Kd.C_alloc HR1.out _) hb2)
  clear ho2 hb2
  go_wp2_with fail
  refine (opaque_Get.calls _ 8 [0, 0, 0, 2, 97, 98, 0, 0] 1 [] 0 3 _ (lit_reads _ _ _ _ rfl (by decide)) (by decide) (by decide)).mono ?_
  rintro e w3 ⟨v3, rfl, ho3, hb3⟩
  have HB3 := Aside0.mk (below_then (below_alloc HB2.out _) (by have := HB2.out.size; simp; omega) hb3)
  replace HR1 := Aside0.mk (Kd.C_below (Kd.C_alloc HR1.out _) hb3)
  clear ho3 hb3
  go_wp2_with fail
  refine (opaque_GetFixed.calls _ 4 [97, 0, 0, 0] 1 [97] 4 0 _ (lit_reads _ _ _ _ rfl (by decide)) (by decide) (by decide)).mono ?_
  rintro e w4 ⟨v4, rfl, ho4, hb4⟩
  have HB4 := Aside0.mk (below_then (below_alloc HB3.out _) (by have := HB3.out.size; simp; omega) hb4)
  replace HR1 := Aside0.mk (Kd.C_below (Kd.C_alloc HR1.out _) hb4)
  obtain ⟨A4, c4, rfl, hc4, hR4⟩ := OB_reads ho4
  have HR4 := Aside0.mk hR4
  clear hR4
  clear ho4 hb4
  go_wp2_with fail
  refine (opaque_GetFixed.calls none 0 [] (-1) [] 0 1 _ (Kd.C_nil _ _) (by decide) (by decide)).mono ?_
  rintro e w5 ⟨v5, rfl, ho5, hb5⟩
  have HB5 := Aside0.mk (below_then HB4.out HB4.out.size hb5)
  replace HR1 := Aside0.mk (Kd.C_below HR1.out hb5)
  replace HR4 := Aside0.mk (Kd.C_below HR4.out hb5)
  clear ho5 hb5
  have hs1 : (convert 22 9 (.slice A1 1 c1)).run Try.prog w5 = .ok (.string ⟨#[97]⟩) w5 := Kd.C_string (P := Try.prog) Try.underlying22 Try.underlying5 Try.underlying9 HR1.out
  have hs4 : (convert 22 9 (.slice A4 1 c4)).run Try.prog w5 = .ok (.string ⟨#[97]⟩) w5 := Kd.C_string (P := Try.prog) Try.underlying22 Try.underlying5 Try.underlying9 HR4.out
  go_wp2_with fail
  refine (opaque_Pad.calls 1 3 _ (by decide)).mono ?_
  rintro e w6 ⟨rfl, ⟨nd, rfl⟩⟩
  have kc2 : ∀ (C : Array Value) (n c : Nat), (convert 22 22 (.slice (some ⟨w5.heap.size, 0, none⟩) n c)).run Try.prog ((w5.drewN nd).alloc (.cells C 5)) = .ok (.slice (some ⟨w5.heap.size, 0, none⟩) n c) ((w5.drewN nd).alloc (.cells C 5 (C.size, C.size + 1))) := fun C n c => kc (w5.drewN nd) C n c
  go_wp2_with fail
  refine (opaque_Put.calls (some ⟨w5.heap.size, 0, none⟩) 5 [97, 98, 99, 100, 101] [0, 0, 0, 5, 97, 98, 99, 100, 101, 0, 0, 0] _ (lit_reads (w5.drewN nd) _ _ _ rfl (by decide)) (by decide) (by decide)).mono ?_
  rintro e w7 ⟨v7, rfl, ho7, hb7⟩
  have HB7 := Aside0.mk (below_then (below_alloc (pw_below_drewN HB5.out nd) _) (by have := HB5.out.size; simp; omega) hb7)
  obtain ⟨A7, c7, rfl, hc7, hR7⟩ := OB_reads ho7
  have hs7 : (convert 22 9 (.slice A7 12 c7)).run Try.prog w7 = .ok (.string ⟨#[0, 0, 0, 5, 97, 98, 99, 100, 101, 0, 0, 0]⟩) w7 := Kd.C_string (P := Try.prog) Try.underlying22 Try.underlying5 Try.underlying9 hR7
  clear ho7 hb7 hc7 hR7 hs1 hs4
  go_wp2_with fail
  refine (opaque_PutFixed.calls _ 1 [97] [97, 0, 0, 0] _ (lit_reads _ _ _ _ rfl (by decide)) (by decide) (by decide)).mono ?_
  rintro e w8 ⟨v8, rfl, ho8, hb8⟩
  have HB8 := Aside0.mk (below_then (below_alloc HB7.out _) (by have := HB7.out.size; simp; omega) hb8)
  obtain ⟨A8, c8, rfl, hc8, hR8⟩ := OB_reads ho8
  have hs8 : (convert 22 9 (.slice A8 4 c8)).run Try.prog w8 = .ok (.string ⟨#[97, 0, 0, 0]⟩) w8 := Kd.C_string (P := Try.prog) Try.underlying22 Try.underlying5 Try.underlying9 hR8
  clear ho8 hb8 hc8 hR8 hs7
  go_wp2
  go_ret
  exact ⟨rfl, HB8.out⟩
end Go.Proofs.Ytclojfnmknknjaa.Hand
