import Derived.Test.YtncplnobmiljfaaDoorT1
import Derived.Test.YtncplnobmiljfaaDoorC2
import Derived.Deep.RegionHeld3
namespace Go.Proofs.YtncplnobmiljfaaDoor.Hand
open Go.RowKit Go.Proofs.YtncplnobmiljfaaDoorW.PrintWords Go.Proofs.YtncplnobmiljfaaDoorW.PrintLast Go.Proofs.YtncplnobmiljfaaDoorW.PrintMore
set_option linter.unusedVariables false
set_option linter.unusedSimpArgs false

theorem cred3_new (W : World) (u g : Int) (v : Value) : Cred3 (W.alloc (.cells #[.int .u32 u, .int .u32 g, v] 43)) W.heap.size u g v := World.alloc_heap_new W _
theorem Cred3.below {W w' : World} {C : Nat} {u g : Int} {v : Value} (h : Cred3 W C u g v) (hb : Below W.heap.size W w') : Cred3 w' C u g v := (hb.block _ h.lt).trans h
theorem R_setC {α : Type} {d : Kd α} {e : TypeId} {W : World} {base : Nat} {ok : Nat → Prop} {v : Value} {xs : List α} (h : d.R e W base ok v xs) {C i : Nat} {x : Value} (hC : C < base) : d.R e (W.setCell ⟨C, i, none⟩ x) base ok v xs :=
  Kd.R_mono (Kd.R_move (Kd.R_bound h) (fun k hk => Below.heap_setCell _ _ _ _ (fun e => by have h1 : k = C := (by first | exact e | exact e.symm); have h2 := hk.2.1; omega))) (fun _ hk => hk.1)
set_option maxHeartbeats 4000000 in
set_option maxRecDepth 100000 in
theorem twinCred_calls (u g : Int) (A : Option Addr) (c : Nat) (l : List Int) (w : World) (hR : Kd.C (Kd.int .u32) w A l.length l) (hc : l.length ≤ c) (hl : l.length ≤ 2000000) :
    Calls Tryd.prog 18 #[.agg #[.int .u32 u, .int .u32 g, .slice A l.length c]] w fun e w' => ∃ A' c', e = .returned (.agg #[.int .u32 u, .int .u32 g, .slice A' l.length c']) ∧ l.length < c' ∧ Kd.R (Kd.int .u32) 26 w' w.heap.size (fun _ => True) (.slice A' (l.length + 1) c') (l ++ [77]) ∧ Below w.heap.size w w' := by
  obtain ⟨wb, hwb⟩ : ∃ wb, (w.alloc (.cells #[.int .u32 u, .int .u32 g, .slice A l.length c] 43)).alloc (.cells #[.int .u32 0, .int .u32 0, .slice none 0 0] 43) = wb := ⟨_, rfl⟩
  have hb0 : Below w.heap.size w wb := hwb ▸ below_alloc (below_alloc (Below.refl w.heap.size w) _) _
  have hz : wb.heap.size = w.heap.size + 2 := by rw [← hwb]; simp
  have hd : Cred3 wb (w.heap.size + 1) 0 0 (.slice none 0 0) := by
    have := cred3_new (w.alloc (.cells #[.int .u32 u, .int .u32 g, .slice A l.length c] 43)) 0 0 (.slice none 0 0)
    rw [hwb] at this
    simpa using this
  have HW := Aside0.mk hwb
  have HD := Aside0.mk hd
  have HB := Aside0.mk hb0
  have HZ := Aside0.mk hz
  have HR := Aside0.mk (Kd.C_below hR hb0)
  clear hR hwb hd hb0 hz
  go_enter Tryd.func18, Tryd.ntmps18
  have HX := Aside0.mk (show Cred3 wb w.heap.size u g (.slice A l.length c) from by
    have h1 := cred3_new w u g (.slice A l.length c)
    rw [← HW.out]
    exact (World.grownBy_alloc (w.alloc (.cells #[.int .u32 u, .int .u32 g, .slice A l.length c] 43)) (.cells #[.int .u32 0, .int .u32 0, .slice none 0 0] 43) none).block w.heap.size (by simp) (by simp) |>.trans h1)
  go_wp2_with fail
  rw [HW.out]
  have y0 := HX.out.c0
  have y1 := HX.out.c1
  have y2 := HX.out.c2
  go_region_held3 (fun w' => w'.cell? ⟨w.heap.size, 0, none⟩ = some (.int .u32 u) ∧ w'.cell? ⟨w.heap.size, 1, none⟩ = some (.int .u32 g) ∧ w'.cell? ⟨w.heap.size, 2, none⟩ = some (.slice A l.length c)) (first | exact ⟨HX1.c0, HX1.c1, HX1.c2⟩ | go_keep)
    (first | (go_at_call 64; refine (twinNumbers_calls A c l wb.drew HR.out hc hl).mono ?_; rintro e w1 ⟨A1, c1, rfl, hc1, ho1, hb1⟩; have HD1 := Cred3.below (W := wb.drew) HD.out hb1; have HX1 := Cred3.below (W := wb.drew) HX.out hb1; have x0 := HD1.c0; have x1 := HD1.c1; have x2 := HD1.c2; have f0 := HD1.fz 0 (by omega); have f1 := HD1.fz 1 (by omega); have f2 := HD1.fz 2 (by omega)))
  go_wp2
  have hz := HZ.out
  have hf := ((HD1.set0 u).set1 g).set2 (.slice A1 l.length c1)
  have z0 := hf.c0
  have z1 := hf.c1
  have z2 := hf.c2
  have hzd : wb.drew.heap.size = w.heap.size + 2 := hz
  have ho2 := R_setC (R_setC (R_setC ho1 (C := w.heap.size + 1) (i := 0) (x := .int .u32 u) (by omega)) (C := w.heap.size + 1) (i := 1) (x := .int .u32 g) (by omega)) (C := w.heap.size + 1) (i := 2) (x := .slice A1 l.length c1) (by omega)
  have hbf : Below w.heap.size w w1 := below_then (below_drew1 HB.out) HB.out.size hb1
  exact bodyPost_ret (v := .agg #[.int .u32 u, .int .u32 g, .slice A1 l.length c1]) (by simp [results, Tryd.results18, go_sem, z0, z1, z2]) rfl ⟨A1, c1, rfl, hc1, Kd.R_lower ho2 (by omega), ((hbf.setCell (p := ⟨w.heap.size + 1, 0, none⟩) (by simp) _).setCell (p := ⟨w.heap.size + 1, 1, none⟩) (by simp) _).setCell (p := ⟨w.heap.size + 1, 2, none⟩) (by simp) _⟩
set_option maxHeartbeats 4000000 in
set_option maxRecDepth 100000 in
theorem leftCred_calls (u g : Int) (A0 : Option Addr) (c0 : Nat) (A : Option Addr) (c : Nat) (l : List Int) (w : World) (hT : Kd.C (Kd.int .u32) w A0 (l ++ [77]).length (l ++ [77])) (h0 : l.length < c0) (hR : Kd.C (Kd.int .u32) w A l.length l) (hc : l.length ≤ c) (hl : l.length ≤ 2000000) :
    Calls Tryd.prog 21 #[.agg #[.int .u32 u, .int .u32 g, .slice A0 l.length c0], .agg #[.int .u32 u, .int .u32 g, .slice A l.length c]] w fun e w' => e = .returned (.bool true) ∧ Below w.heap.size w w' := by
  obtain ⟨wb, hwb⟩ : ∃ wb, (w.alloc (.cells #[.int .u32 u, .int .u32 g, .slice A0 l.length c0] 43)).alloc (.cells #[.int .u32 u, .int .u32 g, .slice A l.length c] 43) = wb := ⟨_, rfl⟩
  have hb0 : Below w.heap.size w wb := hwb ▸ below_alloc (below_alloc (Below.refl w.heap.size w) _) _
  have hd : Cred3 wb (w.heap.size + 1) u g (.slice A l.length c) := by
    have := cred3_new (w.alloc (.cells #[.int .u32 u, .int .u32 g, .slice A0 l.length c0] 43)) u g (.slice A l.length c)
    rw [hwb] at this
    simpa using this
  have hx : Cred3 wb w.heap.size u g (.slice A0 l.length c0) := by
    have h1 := cred3_new w u g (.slice A0 l.length c0)
    rw [← hwb]
    exact (World.grownBy_alloc (w.alloc (.cells #[.int .u32 u, .int .u32 g, .slice A0 l.length c0] 43)) (.cells #[.int .u32 u, .int .u32 g, .slice A l.length c] 43) none).block w.heap.size (by simp) (by simp) |>.trans h1
  have x0 := hx.c0
  have x1 := hx.c1
  have x2 := hx.c2
  have y0 := hd.c0
  have y1 := hd.c1
  have y2 := hd.c2
  rw [← hwb] at x0 x1 x2 y0 y1 y2
  have q1 : (u == u) = true := by simp
  have q2 : (g == g) = true := by simp
  have HW := Aside0.mk hwb
  have HB := Aside0.mk hb0
  have HT := Aside0.mk (Kd.C_below hT hb0)
  have HR := Aside0.mk (Kd.C_below hR hb0)
  clear hT hR hwb hd hx hb0
  go_enter Tryd.func21, Tryd.ntmps21
  go_wp2_with fail
  go_outline
  rw [HW.out]
  refine (leftNumbers_calls A0 c0 A c l _ HT.out h0 HR.out hc hl).mono ?_
  rintro e w1 ⟨rfl, ⟨nd, rfl⟩⟩
  go_wp2
  go_ret
  exact ⟨rfl, pw_below_drewN HB.out nd⟩
end Go.Proofs.YtncplnobmiljfaaDoor.Hand
