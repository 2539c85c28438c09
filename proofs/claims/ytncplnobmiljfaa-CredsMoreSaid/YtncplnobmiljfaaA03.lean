import Derived.Test.YtncplnobmiljfaaS2
namespace Go.Proofs.Ytncplnobmiljfaa.Hand
open Go.RowKit Go.Proofs.YtncplnobmiljfaaW.PrintWords Go.Proofs.YtncplnobmiljfaaW.PrintLast Go.Proofs.YtncplnobmiljfaaW.PrintMore
set_option linter.unusedVariables false
set_option linter.unusedSimpArgs false

def wharfingerlaw03_alive.f : Option Bool := some true
set_option maxHeartbeats 4000000 in
set_option maxRecDepth 100000 in
theorem wharfingerlaw03_alive.calls (r : Bool) (w : World) (h : wharfingerlaw03_alive.f = some r) :
    Calls Try.prog 29 #[] w fun e w' => e = .returned (.bool r) ∧ Below w.heap.size w w' := by
  obtain rfl := Option.some.inj h
  clear h
  have kc := fun (w : World) (C : Array Value) (n c : Nat) => Lib.run_convert_bytes_const (P := Try.prog) w 22 5 C n c Try.underlying22 Try.underlying5
  go_enter Try.func29, Try.ntmps29
  go_wp2_with fail
  refine (strings_Get.calls _ 8 [0, 0, 0, 2, 97, 98, 0, 0] 2 ⟨#[97, 98]⟩ 8 0 _ (lit_reads _ _ _ _ rfl (by decide)) (by decide) (by decide)).mono ?_
  rintro e w1 ⟨rfl, hb1⟩
  have HB1 := Aside0.mk (below_then (below_alloc (Below.refl w.heap.size w) _) (by simp) hb1)
  clear hb1
  go_wp2_with fail
  refine (strings_Get.calls _ 8 [0, 0, 0, 2, 97, 98, 0, 0] 1 ⟨#[]⟩ 0 3 _ (lit_reads _ _ _ _ rfl (by decide)) (by decide) (by decide)).mono ?_
  rintro e w2 ⟨rfl, hb2⟩
  have HB2 := Aside0.mk (below_then (below_alloc HB1.out _) (by have := HB1.out.size; simp; omega) hb2)
  clear hb2
  go_wp2_with fail
  refine (strings_Put.calls ⟨#[97, 98]⟩ [0, 0, 0, 2, 97, 98, 0, 0] _ (by decide)).mono ?_
  rintro e w3 ⟨v3, rfl, ho3, hb3⟩
  have HB3 := Aside0.mk (below_then HB2.out HB2.out.size hb3)
  obtain ⟨A3, c3, rfl, hc3, hR3⟩ := OB_reads ho3
  have hs3 : (convert 22 9 (.slice A3 8 c3)).run Try.prog w3 = .ok (.string ⟨#[0, 0, 0, 2, 97, 98, 0, 0]⟩) w3 := Kd.C_string (P := Try.prog) Try.underlying22 Try.underlying5 Try.underlying9 hR3
  clear ho3 hb3 hc3 hR3
  go_wp2_with fail
  refine (strings_Name.calls ⟨#[46, 46]⟩ 0 _ (by decide)).mono ?_
  rintro e w4 ⟨rfl, hb4⟩
  have HB4 := Aside0.mk (below_then HB3.out HB3.out.size hb4)
  clear hb4 hs3
  go_wp2_with fail
  refine (strings_Name.calls ⟨#[]⟩ 22 _ (by decide)).mono ?_
  rintro e w5 ⟨rfl, hb5⟩
  have HB5 := Aside0.mk (below_then HB4.out HB4.out.size hb5)
  clear hb5
  go_wp2_with fail
  refine (strings_Name.calls ⟨#[97, 47, 98]⟩ 22 _ (by decide)).mono ?_
  rintro e w6 ⟨rfl, hb6⟩
  have HB6 := Aside0.mk (below_then HB5.out HB5.out.size hb6)
  clear hb6
  go_wp2_with fail
  refine (strings_Path.calls ⟨#[47, 97, 47, 98]⟩ 0 _ (by decide)).mono ?_
  rintro e w7 ⟨rfl, hb7⟩
  have HB7 := Aside0.mk (below_then HB6.out HB6.out.size hb7)
  clear hb7
  go_wp2_with fail
  refine (strings_Path.calls ⟨#[]⟩ 22 _ (by decide)).mono ?_
  rintro e w8 ⟨rfl, hb8⟩
  have HB8 := Aside0.mk (below_then HB7.out HB7.out.size hb8)
  clear hb8
  go_wp2
  go_ret
  exact ⟨rfl, HB8.out⟩
end Go.Proofs.Ytncplnobmiljfaa.Hand
