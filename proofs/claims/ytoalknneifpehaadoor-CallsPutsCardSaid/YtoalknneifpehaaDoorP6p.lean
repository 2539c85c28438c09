import Derived.Test.YtoalknneifpehaaDoorX6p
import Derived.Test.YtoalknneifpehaaDoorR6a
import Derived.Test.YtoalknneifpehaaDoorGR1
import Derived.Test.YtoalknneifpehaaDoorG6P1
namespace Go.Proofs.YtoalknneifpehaaDoor.Hand
open Go.RowKit Go.Proofs.YtoalknneifpehaaDoor.GB Go.Proofs.YtoalknneifpehaaDoor.GC Go.Proofs.YtoalknneifpehaaDoorW.PrintWords Go.Proofs.YtoalknneifpehaaDoorW.PrintLast Go.Proofs.YtoalknneifpehaaDoorW.PrintMore Go.Proofs.YtoalknneifpehaaDoor.GP Go.Proofs.YtoalknneifpehaaDoor.GR Go.Proofs.YtoalknneifpehaaDoor.G6P
set_option linter.unusedVariables false
set_option linter.unusedSimpArgs false

theorem Call11.all {w : World} {C : Nat} {x p v o f : Int} {m : ByteArray} {s u g : Int} {Vg Vb : Value} (h : Call11 w C x p v o f m s u g Vg Vb) : w.cell? ⟨C, 0, none⟩ = some (.int .u32 x) ∧ w.cell? ⟨C, 1, none⟩ = some (.int .u32 p) ∧ w.cell? ⟨C, 2, none⟩ = some (.int .u32 v) ∧ w.cell? ⟨C, 3, none⟩ = some (.int .u32 o) ∧ w.cell? ⟨C, 4, none⟩ = some (.int .u32 f) ∧ w.cell? ⟨C, 5, none⟩ = some (.string m) ∧ w.cell? ⟨C, 6, none⟩ = some (.int .u32 s) ∧ w.cell? ⟨C, 7, none⟩ = some (.int .u32 u) ∧ w.cell? ⟨C, 8, none⟩ = some (.int .u32 g) ∧ w.cell? ⟨C, 9, none⟩ = some (Vg) ∧ w.cell? ⟨C, 10, none⟩ = some (Vb) :=
  ⟨h.c0, h.c1, h.c2, h.c3, h.c4, h.c5, h.c6, h.c7, h.c8, h.c9, h.c10⟩
theorem Call11.held {w : World} {C : Nat} {x p v o f : Int} {m : ByteArray} {s u g : Int} {Vg Vb : Value} (h : Call11 w C x p v o f m s u g Vg Vb) : w.cell? ⟨C, 0, none⟩ = some (.int .u32 x) ∧ w.cell? ⟨C, 1, none⟩ = some (.int .u32 p) ∧ w.cell? ⟨C, 2, none⟩ = some (.int .u32 v) ∧ w.cell? ⟨C, 3, none⟩ = some (.int .u32 o) ∧ w.cell? ⟨C, 4, none⟩ = some (.int .u32 f) ∧ w.cell? ⟨C, 5, none⟩ = some (.string m) ∧ w.cell? ⟨C, 6, none⟩ = some (.int .u32 s) ∧ w.cell? ⟨C, 10, none⟩ = some (Vb) ∧ w.rangeAt C 7 [.int .u32 u, .int .u32 g, Vg] :=
  ⟨h.c0, h.c1, h.c2, h.c3, h.c4, h.c5, h.c6, h.c10, fun j q hq => by
    match j, hq with
    | 0, hq => rw [show 7 + 0 = 7 from rfl, h.c7]; simpa using hq
    | 1, hq => rw [show 7 + 1 = 8 from rfl, h.c8]; simpa using hq
    | 2, hq => rw [show 7 + 2 = 9 from rfl, h.c9]; simpa using hq
    | j + 3, hq => simp at hq⟩
theorem there_of {w : World} {C n : Nat} {a : Array Value} (h : Blk11 w C a) (hn : a.size = n) : World.there w C 0 n := fun j hj => ⟨by
  rw [show (0 + j) = j by omega, h.cell j, Array.getElem?_eq_getElem (by rw [hn]; exact hj)]; rfl, h.fz (0 + j)⟩
theorem Call11.kept {w w1 : World} {C : Nat} {x p v o f : Int} {m : ByteArray} {s u g : Int} {Vg Vb : Value} (h : Call11 w C x p v o f m s u g Vg Vb) (hk : TK BKT w w1) : Call11 w1 C x p v o f m s u g Vg Vb :=
  (hk.block C _ _ _ h (by unfold BKT; decide)).trans h
set_option maxHeartbeats 8000000 in
set_option maxRecDepth 100000 in
theorem twinCall_calls (x p v o f : Int) (m : ByteArray) (s u g : Int) (A : Option Addr) (c : Nat) (gs : List Int) (B : Option Addr) (cb : Nat) (b : List Int) (w : World) (hR : Kd.C (Kd.int .u32) w A gs.length gs) (hc : gs.length ≤ c) (hl : gs.length ≤ 2000000) (hRb : Kd.C (Kd.int .u8) w B b.length b) (hcb : b.length ≤ cb) (hlb : b.length ≤ 2000000) :
    Calls Tryd.prog 6 #[.agg #[.int .u32 x, .int .u32 p, .int .u32 v, .int .u32 o, .int .u32 f, .string m, .int .u32 s, .int .u32 u, .int .u32 g, .slice A gs.length c, .slice B b.length cb]] w fun e w' => ∃ A1 c1 B1 d1, e = .returned (.agg #[.int .u32 x, .int .u32 p, .int .u32 v, .int .u32 o, .int .u32 f, .string m, .int .u32 s, .int .u32 u, .int .u32 g, .slice A1 gs.length c1, .slice B1 b.length d1]) ∧ gs.length < c1 ∧ b.length < d1 ∧ Kd.R (Kd.int .u32) 22 w' w.heap.size (fun _ => True) (.slice A1 (gs.length + 1) c1) (gs ++ [77]) ∧ Kd.R (Kd.int .u8) 5 w' w.heap.size (fun _ => True) (.slice B1 (b.length + 1) d1) (b ++ [77]) ∧ Below w.heap.size w w' := by
  obtain ⟨wb, hwb⟩ : ∃ wb, (w.alloc (.cells #[.int .u32 x, .int .u32 p, .int .u32 v, .int .u32 o, .int .u32 f, .string m, .int .u32 s, .int .u32 u, .int .u32 g, .slice A gs.length c, .slice B b.length cb] 28)).alloc (.cells #[.int .u32 0, .int .u32 0, .int .u32 0, .int .u32 0, .int .u32 0, .string ⟨#[]⟩, .int .u32 0, .int .u32 0, .int .u32 0, .slice none 0 0, .slice none 0 0] 28) = wb := ⟨_, rfl⟩
  have hb0 : Below w.heap.size w wb := hwb ▸ below_alloc (below_alloc (Below.refl w.heap.size w) _) _
  have hz : wb.heap.size = w.heap.size + 2 := by rw [← hwb]; simp
  have hd : Blk11 wb (w.heap.size + 1) #[.int .u32 0, .int .u32 0, .int .u32 0, .int .u32 0, .int .u32 0, .string ⟨#[]⟩, .int .u32 0, .int .u32 0, .int .u32 0, .slice none 0 0, .slice none 0 0] := by
    have h := call11_new (w.alloc (.cells #[.int .u32 x, .int .u32 p, .int .u32 v, .int .u32 o, .int .u32 f, .string m, .int .u32 s, .int .u32 u, .int .u32 g, .slice A gs.length c, .slice B b.length cb] 28)) 0 0 0 0 0 ⟨#[]⟩ 0 0 0 (.slice none 0 0) (.slice none 0 0)
    rw [hwb, show (w.alloc (.cells #[.int .u32 x, .int .u32 p, .int .u32 v, .int .u32 o, .int .u32 f, .string m, .int .u32 s, .int .u32 u, .int .u32 g, .slice A gs.length c, .slice B b.length cb] 28)).heap.size = w.heap.size + 1 by simp] at h
    exact h
  have HX := Aside0.mk (show Call11 wb w.heap.size x p v o f m s u g (.slice A gs.length c) (.slice B b.length cb) from hwb ▸ Call11.below (call11_new w _ _ _ _ _ _ _ _ _ _ _) (below_alloc (Below.refl _ _) _))
  have HW := Aside0.mk hwb
  have HD := Aside0.mk hd
  have HB := Aside0.mk hb0
  have HZ := Aside0.mk hz
  have HR := Aside0.mk (Kd.C_below hR hb0)
  have HRB := Aside0.mk (Kd.C_below hRb hb0)
  clear hR hRb hwb hd hb0 hz
  go_enter Tryd.func6, Tryd.ntmps6
  go_wp2_with fail
  rw [HW.out]
  have hu := Tryd.underlying25
  have hi : (Tryd.prog.info? 25).map (·.size) = some ([.int .u32 u, .int .u32 g, .slice A gs.length c] : List Value).length := by kernel_rfl
  have HXD : Call11 wb.drew w.heap.size x p v o f m s u g (.slice A gs.length c) (.slice B b.length cb) := HX.out
  go_region_held3 (fun w' => w'.cell? ⟨w.heap.size, 0, none⟩ = some (.int .u32 x) ∧ w'.cell? ⟨w.heap.size, 1, none⟩ = some (.int .u32 p) ∧ w'.cell? ⟨w.heap.size, 2, none⟩ = some (.int .u32 v) ∧ w'.cell? ⟨w.heap.size, 3, none⟩ = some (.int .u32 o) ∧ w'.cell? ⟨w.heap.size, 4, none⟩ = some (.int .u32 f) ∧ w'.cell? ⟨w.heap.size, 5, none⟩ = some (.string m) ∧ w'.cell? ⟨w.heap.size, 6, none⟩ = some (.int .u32 s) ∧ w'.cell? ⟨w.heap.size, 7, none⟩ = some (.int .u32 u) ∧ w'.cell? ⟨w.heap.size, 8, none⟩ = some (.int .u32 g) ∧ w'.cell? ⟨w.heap.size, 9, none⟩ = some (.slice A gs.length c) ∧ w'.cell? ⟨w.heap.size, 10, none⟩ = some (.slice B b.length cb)) (first | with_reducible exact HX2.all | with_reducible exact HX1.all | with_reducible exact HXD.all | go_keep)
    (first | (go_at_call 19; refine (twinCred_calls u g A c gs wb.drew HR.out hc hl).mono ?_; rintro e w1 ⟨A1, c1, rfl, hc1, ho1, hb1⟩; have HD1 := (show Blk11 wb.drew _ _ from HD.out); have HX1 := Call11.below (w := wb.drew) HX.out hb1) | (go_at_call 14; refine (twinBytes_calls B cb b w1 (Kd.C_below (w := wb.drew) HRB.out hb1) hcb hlb).mono ?_; rintro e w2 ⟨B1, d1, rfl, hd1, ho2, hb2⟩; have HD2 := (show Blk11 w2 (w.heap.size + 1) _ from (hb2.block _ (Nat.lt_of_lt_of_le (show w.heap.size + 1 < wb.drew.heap.size from by have := HZ.out; show _ < wb.heap.size; omega) hb1.size)).trans ((hb1.block _ (show w.heap.size + 1 < wb.drew.heap.size from by have := HZ.out; show _ < wb.heap.size; omega)).trans HD1)); have HX2 := Call11.below HX1 hb2; have x0 := HD2.cell 0; have f0 := HD2.fz 0; have x1 := HD2.cell 1; have f1 := HD2.fz 1; have x2 := HD2.cell 2; have f2 := HD2.fz 2; have x3 := HD2.cell 3; have f3 := HD2.fz 3; have x4 := HD2.cell 4; have f4 := HD2.fz 4; have x5 := HD2.cell 5; have f5 := HD2.fz 5; have x6 := HD2.cell 6; have f6 := HD2.fz 6; have x7 := HD2.cell 7; have f7 := HD2.fz 7; have x8 := HD2.cell 8; have f8 := HD2.fz 8; have x9 := HD2.cell 9; have f9 := HD2.fz 9; have x10 := HD2.cell 10; have f10 := HD2.fz 10))
  go_wp2
  have hz := HZ.out
  obtain ⟨ws, hws⟩ : ∃ ws, World.setCells w2 (w.heap.size + 1) 0 [.int .u32 x, .int .u32 p, .int .u32 v, .int .u32 o, .int .u32 f, .string m, .int .u32 s, .int .u32 u, .int .u32 g, .slice A1 gs.length c1, .slice B1 b.length d1] = ws := ⟨_, rfl⟩
  have hf0 : Blk11 ws (w.heap.size + 1) #[.int .u32 x, .int .u32 p, .int .u32 v, .int .u32 o, .int .u32 f, .string m, .int .u32 s, .int .u32 u, .int .u32 g, .slice A1 gs.length c1, .slice B1 b.length d1] := by
    have h := Blk11.sets [.int .u32 x, .int .u32 p, .int .u32 v, .int .u32 o, .int .u32 f, .string m, .int .u32 s, .int .u32 u, .int .u32 g, .slice A1 gs.length c1, .slice B1 b.length d1] 0 _ _ HD2
    rw [sets11] at h
    rw [← hws]
    exact h
  have hch : (((((((((((w2.setCell ⟨w.heap.size + 1, 0, none⟩ (.int .u32 x)).setCell ⟨w.heap.size + 1, 1, none⟩ (.int .u32 p)).setCell ⟨w.heap.size + 1, 2, none⟩ (.int .u32 v)).setCell ⟨w.heap.size + 1, 3, none⟩ (.int .u32 o)).setCell ⟨w.heap.size + 1, 4, none⟩ (.int .u32 f)).setCell ⟨w.heap.size + 1, 5, none⟩ (.string m)).setCell ⟨w.heap.size + 1, 6, none⟩ (.int .u32 s)).setCell ⟨w.heap.size + 1, 7, none⟩ (.int .u32 u)).setCell ⟨w.heap.size + 1, 8, none⟩ (.int .u32 g)).setCell ⟨w.heap.size + 1, 9, none⟩ (.slice A1 gs.length c1)).setCell ⟨w.heap.size + 1, 10, none⟩ (.slice B1 b.length d1)) = ws := hws
  rw [hch]
  have hf := hf0
  have z0 := hf.cell 0; have z1 := hf.cell 1; have z2 := hf.cell 2; have z3 := hf.cell 3; have z4 := hf.cell 4; have z5 := hf.cell 5; have z6 := hf.cell 6; have z7 := hf.cell 7; have z8 := hf.cell 8; have z9 := hf.cell 9; have z10 := hf.cell 10
  have hzd : wb.drew.heap.size = w.heap.size + 2 := hz
  have hz1 := hb1.size
  have ho1b := Kd.R_below ho1 hb2
  have hmv : ∀ k, w.heap.size + 2 ≤ k → ws.heap[k]? = w2.heap[k]? := fun k hk => by rw [← hws]; exact setCells_heap _ _ _ _ _ (by omega)
  have hp1 := R_moved (w1 := ws) (base' := w.heap.size) ho1b (fun k hk _ => hmv k (by omega)) (by omega)
  have hp2 := R_moved (w1 := ws) (base' := w.heap.size) ho2 (fun k hk _ => hmv k (by omega)) (by omega)
  have hbf : Below w.heap.size w w2 := below_then (below_then (below_drew1 HB.out) HB.out.size hb1) (by omega) hb2
  exact bodyPost_ret (v := .agg #[.int .u32 x, .int .u32 p, .int .u32 v, .int .u32 o, .int .u32 f, .string m, .int .u32 s, .int .u32 u, .int .u32 g, .slice A1 gs.length c1, .slice B1 b.length d1]) (by simp [results, Tryd.results6, go_sem, z0, z1, z2, z3, z4, z5, z6, z7, z8, z9, z10] <;> rfl) rfl ⟨A1, c1, B1, d1, rfl, hc1, hd1, hp1, hp2, by rw [← hws]; exact below_setCells (w.heap.size + 1) (Nat.le_succ _) _ _ _ hbf⟩
set_option maxHeartbeats 8000000 in
set_option maxRecDepth 100000 in
theorem leftCall_calls (x p v o f : Int) (m : ByteArray) (s u g : Int) (A0 : Option Addr) (c0 : Nat) (A : Option Addr) (c : Nat) (gs : List Int) (B0 : Option Addr) (d0 : Nat) (B : Option Addr) (cb : Nat) (b : List Int) (w : World) (hT : Kd.C (Kd.int .u32) w A0 (gs ++ [77]).length (gs ++ [77])) (h0 : gs.length < c0) (hR : Kd.C (Kd.int .u32) w A gs.length gs) (hc : gs.length ≤ c) (hl : gs.length ≤ 2000000) (hTb : Kd.C (Kd.int .u8) w B0 (b ++ [77]).length (b ++ [77])) (hb0 : b.length < d0) (hRb : Kd.C (Kd.int .u8) w B b.length b) (hcb : b.length ≤ cb) (hlb : b.length ≤ 2000000) :
    Calls Tryd.prog 10 #[.agg #[.int .u32 x, .int .u32 p, .int .u32 v, .int .u32 o, .int .u32 f, .string m, .int .u32 s, .int .u32 u, .int .u32 g, .slice A0 gs.length c0, .slice B0 b.length d0], .agg #[.int .u32 x, .int .u32 p, .int .u32 v, .int .u32 o, .int .u32 f, .string m, .int .u32 s, .int .u32 u, .int .u32 g, .slice A gs.length c, .slice B b.length cb]] w fun e w' => e = .returned (.bool true) ∧ Below w.heap.size w w' := by
  obtain ⟨wb, hwb⟩ : ∃ wb, (w.alloc (.cells #[.int .u32 x, .int .u32 p, .int .u32 v, .int .u32 o, .int .u32 f, .string m, .int .u32 s, .int .u32 u, .int .u32 g, .slice A0 gs.length c0, .slice B0 b.length d0] 28)).alloc (.cells #[.int .u32 x, .int .u32 p, .int .u32 v, .int .u32 o, .int .u32 f, .string m, .int .u32 s, .int .u32 u, .int .u32 g, .slice A gs.length c, .slice B b.length cb] 28) = wb := ⟨_, rfl⟩
  have hbb : Below w.heap.size w wb := hwb ▸ below_alloc (below_alloc (Below.refl w.heap.size w) _) _
  have HX := Aside0.mk (show Call11 wb w.heap.size x p v o f m s u g (.slice A0 gs.length c0) (.slice B0 b.length d0) from hwb ▸ Call11.below (call11_new w _ _ _ _ _ _ _ _ _ _ _) (below_alloc (Below.refl _ _) _))
  have HD := Aside0.mk (show Call11 wb (w.heap.size + 1) x p v o f m s u g (.slice A gs.length c) (.slice B b.length cb) from by
    have h := call11_new (w.alloc (.cells #[.int .u32 x, .int .u32 p, .int .u32 v, .int .u32 o, .int .u32 f, .string m, .int .u32 s, .int .u32 u, .int .u32 g, .slice A0 gs.length c0, .slice B0 b.length d0] 28)) x p v o f m s u g (.slice A gs.length c) (.slice B b.length cb)
    rw [hwb, show (w.alloc (.cells #[.int .u32 x, .int .u32 p, .int .u32 v, .int .u32 o, .int .u32 f, .string m, .int .u32 s, .int .u32 u, .int .u32 g, .slice A0 gs.length c0, .slice B0 b.length d0] 28)).heap.size = w.heap.size + 1 by simp] at h
    exact h)
  have HW := Aside0.mk hwb
  have HB := Aside0.mk hbb
  have HT := Aside0.mk (Kd.C_below hT hbb)
  have HR := Aside0.mk (Kd.C_below hR hbb)
  have HTB := Aside0.mk (Kd.C_below hTb hbb)
  have HRB := Aside0.mk (Kd.C_below hRb hbb)
  have y0 : wb.cell? ⟨w.heap.size, 0, none⟩ = some (.int .u32 x) := HX.out.c0
  have y1 : wb.cell? ⟨w.heap.size, 1, none⟩ = some (.int .u32 p) := HX.out.c1
  have y2 : wb.cell? ⟨w.heap.size, 2, none⟩ = some (.int .u32 v) := HX.out.c2
  have y3 : wb.cell? ⟨w.heap.size, 3, none⟩ = some (.int .u32 o) := HX.out.c3
  have y4 : wb.cell? ⟨w.heap.size, 4, none⟩ = some (.int .u32 f) := HX.out.c4
  have y5 : wb.cell? ⟨w.heap.size, 5, none⟩ = some (.string m) := HX.out.c5
  have y6 : wb.cell? ⟨w.heap.size, 6, none⟩ = some (.int .u32 s) := HX.out.c6
  have y7 : wb.cell? ⟨w.heap.size, 7, none⟩ = some (.int .u32 u) := HX.out.c7
  have y8 : wb.cell? ⟨w.heap.size, 8, none⟩ = some (.int .u32 g) := HX.out.c8
  have y9 : wb.cell? ⟨w.heap.size, 9, none⟩ = some (.slice A0 gs.length c0) := HX.out.c9
  have y10 : wb.cell? ⟨w.heap.size, 10, none⟩ = some (.slice B0 b.length d0) := HX.out.c10
  have d0 : wb.cell? ⟨(w.heap.size + 1), 0, none⟩ = some (.int .u32 x) := HD.out.c0
  have d1 : wb.cell? ⟨(w.heap.size + 1), 1, none⟩ = some (.int .u32 p) := HD.out.c1
  have d2 : wb.cell? ⟨(w.heap.size + 1), 2, none⟩ = some (.int .u32 v) := HD.out.c2
  have d3 : wb.cell? ⟨(w.heap.size + 1), 3, none⟩ = some (.int .u32 o) := HD.out.c3
  have d4 : wb.cell? ⟨(w.heap.size + 1), 4, none⟩ = some (.int .u32 f) := HD.out.c4
  have d5 : wb.cell? ⟨(w.heap.size + 1), 5, none⟩ = some (.string m) := HD.out.c5
  have d6 : wb.cell? ⟨(w.heap.size + 1), 6, none⟩ = some (.int .u32 s) := HD.out.c6
  have d7 : wb.cell? ⟨(w.heap.size + 1), 7, none⟩ = some (.int .u32 u) := HD.out.c7
  have d8 : wb.cell? ⟨(w.heap.size + 1), 8, none⟩ = some (.int .u32 g) := HD.out.c8
  have d9 : wb.cell? ⟨(w.heap.size + 1), 9, none⟩ = some (.slice A gs.length c) := HD.out.c9
  have d10 : wb.cell? ⟨(w.heap.size + 1), 10, none⟩ = some (.slice B b.length cb) := HD.out.c10
  rw [← hwb] at y0 d0 y1 d1 y2 d2 y3 d3 y4 d4 y5 d5 y6 d6 y7 d7 y8 d8 y9 d9 y10 d10
  clear hT hR hTb hRb hwb hbb
  go_enter Tryd.func10, Tryd.ntmps10
  go_wp2_with fail
  clear y0 d0 y1 d1 y2 d2 y3 d3 y4 d4 y5 d5 y6 d6 y7 d7 y8 d8 y9 d9 y10 d10
  rw [HW.out]
  refine (leftCred_calls u g A0 c0 A c gs wb HT.out h0 HR.out hc hl).mono ?_
  rintro e w1 ⟨rfl, hb1⟩
  have y10 := (HX.out.below hb1).c10
  have d10 := (HD.out.below hb1).c10
  have HB1 := Aside0.mk (below_then HB.out HB.out.size hb1)
  have HTB1 := Aside0.mk (Kd.C_below HTB.out hb1)
  have HRB1 := Aside0.mk (Kd.C_below HRB.out hb1)
  clear hb1
  go_wp2_with fail
  refine (leftBytes_calls B0 d0 B cb b w1 HTB1.out hb0 HRB1.out hcb hlb).mono ?_
  rintro e w2 ⟨rfl, ⟨nd, rfl⟩⟩
  go_wp2
  go_ret
  exact ⟨rfl, pw_below_drewN HB1.out nd⟩
set_option maxHeartbeats 4000000 in
theorem call_keep2 (w0 w : World) (K : Nat) (nn : Int) (mb mn : Nat) (bs ns : List Ent) (x p v o f : Int) (m : ByteArray) (s u g : Int) (la : Option Addr) (len lc : Nat) (lb : Option Addr) (len2 lc2 : Nat) (h : BookS w0 w K nn mb mn bs ns) (hm : mn < ns.length) (he : ns[mn] = ⟨la, len, lc, none, 0, 0, nn + 1⟩) (hmb : mb < bs.length) (heb : bs[mb] = ⟨lb, len2, lc2, none, 0, 0, nn + 1 + 1⟩) (h0 : 0 ≤ nn) (h1 : nn + 1 ≤ 100) :
    Calls Tryd.prog 11 #[.pointer (some ⟨K, 0, none⟩), .agg #[.int .u32 x, .int .u32 p, .int .u32 v, .int .u32 o, .int .u32 f, .string m, .int .u32 s, .int .u32 u, .int .u32 g, .slice la len lc, .slice lb len2 lc2]] w fun e w' => e = .returned (.tuple #[]) ∧ BookS w0 w' K (nn + 1 + 1) (mb + 1) (mn + 1) bs ns ∧ TK BKT w w' := by
  have HC1 := Aside0.mk (fun W (hW : BookS w0 W K nn mb mn bs ns) => cred_keep2 w0 W K nn mb mn bs ns u g la len lc hW hm he h0 (by omega))
  have HC2 := Aside0.mk (fun W (hW : BookS w0 W K (nn + 1) mb (mn + 1) bs ns) => bytes_keep2 w0 W K (nn + 1) mb (mn + 1) bs ns lb len2 lc2 hW hmb heb (by omega) h1)
  have hb0 := below_alloc (Below.refl w.heap.size w) (.cells #[.int .u32 x, .int .u32 p, .int .u32 v, .int .u32 o, .int .u32 f, .string m, .int .u32 s, .int .u32 u, .int .u32 g, .slice la len lc, .slice lb len2 lc2] 28)
  have HT0 := Aside0.mk (TK.of_below (hb0 : Below w.heap.size w _) BKT)
  have H := Aside0.mk (h.step hb0)
  have hk := call11_new w x p v o f m s u g (.slice la len lc) (.slice lb len2 lc2)
  have HK := Aside0.mk hk
  have y7 := hk.c7
  have y8 := hk.c8
  have y9 := hk.c9
  clear h he heb hb0 hk
  go_enter Tryd.func11, Tryd.ntmps11
  go_wp2_with fail
  clear y7 y8 y9
  refine (HC1.out _ H.out).mono ?_
  rintro e w1 ⟨rfl, hs, ht⟩
  have HE := Aside0.mk hs
  have HF := Aside0.mk (HT0.out.trans ht)
  have y10 := (HK.out.kept ht).c10
  clear hs ht
  go_wp2_with fail
  refine (HC2.out _ HE.out).mono ?_
  rintro e w2 ⟨rfl, hs, ht⟩
  have HE2 := Aside0.mk hs
  have HF2 := Aside0.mk (HF.out.trans ht)
  clear hs ht
  go_wp2
  go_end0
  exact ⟨rfl, HE2.out, HF2.out⟩
/-- The parts of a call that came. -/
structure CallA (x p v o f : Int) (m : ByteArray) (s u g : Int) (gs b : List Int) : Prop where
  hx : R32 x
  hp : R32 p
  hv : R32 v
  ho : R32 o
  hf : R32 f
  hs : R32 s
  hu : R32 u
  hg : R32 g
  hgs : ∀ n ∈ gs, R32 n
  hm : m.size ≤ 140737488351232
  hl : gs.length ≤ 140737488351232
  hb : b.length ≤ 140737488351232
theorem CallA.cases {x p v o f : Int} {m : ByteArray} {s u g : Int} {gs b : List Int} (h : CallA x p v o f m s u g gs b) :
    (calls_Put.f x p v o f m s u g gs b = some ([], 1) ∧ ¬ CallOk x p v o f m s u g gs) ∨ (calls_Put.f x p v o f m s u g gs b = some ([], 3) ∧ CallOk x p v o f m s u g gs ∧ 65536 < (callB x p v o f m s u g gs ++ b).length) ∨
    (calls_Put.f x p v o f m s u g gs b = some (callB x p v o f m s u g gs ++ b, 0) ∧ CallOk x p v o f m s u g gs ∧ (callB x p v o f m s u g gs ++ b).length ≤ 65536) :=
  cput_cases h.hx h.hp h.hv h.ho h.hf h.hs h.hu h.hg h.hgs h.hm h.hl h.hb
theorem great_f (x p v o f : Int) (m : ByteArray) (s u g : Int) (gs b : List Int) :
    ∃ q, wharfingerlaw06_great.f x p v o f m s u g gs b = some q ∧ (q = false → m.size ≤ 5000 ∧ gs.length ≤ 1000 ∧ b.length ≤ 200000) := by
  unfold wharfingerlaw06_great.f
  by_cases h1 : (m.size : Int) > 5000
  · exact ⟨true, by rw [if_pos h1], fun h => by cases h⟩
  · by_cases h2 : (gs.length : Int) > 1000
    · exact ⟨true, by rw [if_neg h1, if_pos h2], fun h => by cases h⟩
    · refine ⟨_, by rw [if_neg h1, if_neg h2], fun h => ?_⟩
      have h3 := of_decide_eq_false h
      omega
theorem callB_most {x p v o f : Int} {m : ByteArray} {s u g : Int} {gs : List Int} (h : CallOk x p v o f m s u g gs) : 40 ≤ (callB x p v o f m s u g gs).length ∧ (callB x p v o f m s u g gs).length ≤ 450 := by
  have h1 := whoL_most (f := f) (m := m) (s := s) (u := u) (g := g) (gs := gs) h.f1
  have h2 := putL_length (whoL f m s u g gs)
  have h3 := padI_small (whoL f m s u g gs).length
  rw [callB_length]; omega

theorem r2put {l : List Int} (h : l.length ≤ 1048580) : wharfingerref02_Put.f l = some (putL l) := by unfold wharfingerref02_Put.f; rw [if_pos h]
/-- The document's numbers of a call. -/
theorem r6put_l0 (who ns : List Int) (x p v o f : Int) (m : ByteArray) (s u g : Int) (gs b : List Int) (hl : ns.length ≤ 16) (hr : ∀ n ∈ ns, R32 n) (k : Nat) :
    ∀ (d i : Nat) (acc : List Int), ns.length - i = d → i ≤ ns.length → acc.length + 4 * d ≤ 10000 →
    wharfingerref06_Put.l0 (k + d) who ns acc (i : Int) x p v o f m s u g gs b = wharfingerref06_Put.l0 k who ns (acc ++ numsL (ns.drop i)) (ns.length : Int) x p v o f m s u g gs b
  | 0, i, acc, h1, h2, h3 => by
    obtain rfl : i = ns.length := by omega
    simp [numsL]
  | d + 1, i, acc, h1, h2, h3 => by
    have hi : i < ns.length := by omega
    have hn := hr ns[i] (List.getElem_mem hi)
    rw [show k + (d + 1) = (k + d) + 1 by omega]
    conv => lhs; rw [wharfingerref06_Put.l0]
    rw [if_pos (by omega), if_pos (by omega), rd_nat ns i hi, r1put hn.1 hn.2, Option.bind_some, if_pos (by rw [beL_length]; omega), wrap_in (by omega) (by omega), show ((i : Int) + 1) = ((i + 1 : Nat) : Int) by omega]
    rw [r6put_l0 who ns x p v o f m s u g gs b hl hr k d (i + 1) _ (by omega) (by omega) (by rw [List.length_append, beL_length]; omega)]
    rw [List.drop_eq_getElem_cons hi, numsL, List.append_assoc]
theorem r6put_end (k : Nat) (who : List Int) (x p v o f : Int) (m : ByteArray) (s u g : Int) (gs b : List Int) (hx : R32 x) (hp : R32 p) (hv : R32 v) (ho : R32 o) (hf : R32 f) (hw : who.length ≤ 400) (hb : b.length ≤ 200000) (B : List Int) (hB : B = numsL [x, 0, 2, p, v, o, f] ++ (putL who ++ (beL 0 4 ++ putL []))) :
    wharfingerref06_Put.j0 (k + 1 + 7 + 1) who x p v o f m s u g gs b = some (if 65536 < (B ++ b).length then ([], 3) else (B ++ b, 0)) := by
  have hn : ∀ n ∈ [x, 0, 2, p, v, o, f], R32 n := by
    intro n hn
    simp only [List.mem_cons, List.not_mem_nil, or_false] at hn
    rcases hn with rfl | rfl | rfl | rfl | rfl | rfl | rfl
    · exact hx
    · exact ⟨by omega, by omega⟩
    · exact ⟨by omega, by omega⟩
    · exact hp
    · exact hv
    · exact ho
    · exact hf
  have h1 := r6put_l0 who [x, 0, 2, p, v, o, f] x p v o f m s u g gs b (by simp) hn (k + 1) 7 0 [] (by simp) (by simp) (by simp)
  rw [show ((0 : Nat) : Int) = 0 from rfl, List.drop_zero, List.nil_append] at h1
  have h28 : (numsL [x, 0, 2, p, v, o, f]).length = 28 := by rw [numsL_length]; rfl
  have hpw := putL_length who
  have hps := padI_small who.length
  have hz : ([0, 0, 0, 0, 0, 0, 0, 0] : List Int) = beL 0 4 ++ putL [] := by kernel_rfl
  have hL : B.length = 28 + (putL who).length + 8 := by rw [hB, List.length_append, List.length_append, ← hz]; simp only [List.length_cons, List.length_nil]; omega
  rw [wharfingerref06_Put.j0, h1, wharfingerref06_Put.l0, if_neg (by simp), r2put (by omega), Option.bind_some, if_pos (by omega), Option.bind_some, Option.bind_some, if_pos (by simp only [List.length_append, List.length_cons, List.length_nil]; omega), Option.bind_some]
  rw [show numsL [x, 0, 2, p, v, o, f] ++ putL who ++ [0, 0, 0, 0, 0, 0, 0, 0] = B by rw [hB, hz]; simp only [List.append_assoc]]
  rw [wrap_in (by omega) (by omega)]
  by_cases h : 65536 < (B ++ b).length
  · rw [if_pos h, if_pos (by rw [List.length_append] at h; omega)]
  · rw [if_neg h, if_neg (by rw [List.length_append] at h; omega), if_pos (by omega)]
theorem toList_size {m : ByteArray} : m.toList = ([] : List UInt8) ↔ m.size = 0 := by
  rw [ByteArray.toList_eq]
  have h : m.data.toList.length = m.size := by rw [Array.length_toList]; rfl
  constructor
  · intro hm; rw [← h, hm]; rfl
  · intro hm; exact List.eq_nil_of_length_eq_zero (by rw [h, hm])
/-- The code's answer is the document's. -/
theorem put06_both {x p v o f : Int} {m : ByteArray} {s u g : Int} {gs b : List Int} (h : CallA x p v o f m s u g gs b) (hb : b.length ≤ 200000) :
    ∃ r e, calls_Put.f x p v o f m s u g gs b = some (r, e) ∧ wharfingerref06_Put.f 40 x p v o f m s u g gs b = some (r, e) ∧ r.length ≤ 65536 := by
  have z := h.hf
  by_cases h0 : f = 0
  · subst h0
    by_cases ht : toldB m s u g gs = true
    · refine ⟨[], 1, ?_, ?_, by simp⟩
      · unfold calls_Put.f
        rw [if_pos ⟨⟨h.hs, h.hu, h.hg, by omega⟩, h.hm, h.hl, h.hb⟩, if_pos (.inr ⟨rfl, ht⟩)]
      · unfold wharfingerref06_Put.f
        rw [if_pos rfl]
        by_cases c1 : m.toList = ([] : List UInt8)
        · rw [if_pos c1]
          by_cases c2 : s = 0
          · rw [if_pos c2]
            by_cases c3 : u = 0
            · rw [if_pos c3]
              by_cases c4 : g = 0
              · rw [if_pos c4, if_pos]
                unfold toldB at ht
                rw [toList_size.1 c1, c2, c3, c4] at ht
                simp at ht
                have : gs.length ≠ 0 := fun h => ht (List.eq_nil_of_length_eq_zero h)
                omega
              · rw [if_neg c4]
            · rw [if_neg c3]
          · rw [if_neg c2]
        · rw [if_neg c1]
    · obtain ⟨rfl, rfl, rfl, rfl, rfl⟩ : m = ByteArray.empty ∧ s = 0 ∧ u = 0 ∧ g = 0 ∧ gs = [] := by
        have ht2 : toldB m s u g gs = false := by
          cases hq : toldB m s u g gs
          · rfl
          · exact absurd hq ht
        unfold toldB at ht2
        simp only [Bool.or_eq_false_iff, Bool.not_eq_false', beq_iff_eq] at ht2
        obtain ⟨⟨⟨⟨k1, k2⟩, k3⟩, k4⟩, k5⟩ := ht2
        exact ⟨ByteArray.size_eq_zero_iff.mp k1, k2, k3, k4, List.eq_nil_of_length_eq_zero k5⟩
      have hn0 : ¬ ((1 : Int) < 0 ∨ ((0 : Int) = 0 ∧ toldB ByteArray.empty 0 0 0 [] = true)) := by
        rintro (q | ⟨_, q⟩)
        · omega
        · exact absurd q (by decide)
      have he := r6put_end 31 [] x p v o 0 ByteArray.empty 0 0 0 [] b h.hx h.hp h.hv h.ho h.hf (by simp) hb (callB x p v o 0 ByteArray.empty 0 0 0 []) rfl
      refine ⟨(if 65536 < (callB x p v o 0 ByteArray.empty 0 0 0 [] ++ b).length then (([] : List Int), (3 : Int)) else (callB x p v o 0 ByteArray.empty 0 0 0 [] ++ b, 0)).1, (if 65536 < (callB x p v o 0 ByteArray.empty 0 0 0 [] ++ b).length then (([] : List Int), (3 : Int)) else (callB x p v o 0 ByteArray.empty 0 0 0 [] ++ b, 0)).2, ?_, ?_, ?_⟩
      · unfold calls_Put.f
        rw [if_pos ⟨⟨h.hs, h.hu, h.hg, by omega⟩, h.hm, h.hl, h.hb⟩, if_neg hn0, if_neg (by rintro ⟨q, _⟩; omega)]
      · unfold wharfingerref06_Put.f
        rw [if_pos rfl, if_pos (toList_size.2 rfl), if_pos rfl, if_pos rfl, if_pos rfl, if_neg (by simp)]
        exact he
      · by_cases hq : 65536 < (callB x p v o 0 ByteArray.empty 0 0 0 [] ++ b).length
        · rw [if_pos hq]; simp
        · rw [if_neg hq]; show (callB x p v o 0 ByteArray.empty 0 0 0 [] ++ b).length ≤ 65536; omega
  · by_cases h1 : f = 1
    · subst h1
      by_cases hbad : 255 < m.size ∨ 16 < gs.length
      · refine ⟨[], 1, ?_, ?_, by simp⟩
        · unfold calls_Put.f
          rw [if_pos ⟨⟨h.hs, h.hu, h.hg, by omega⟩, h.hm, h.hl, h.hb⟩, if_neg (by rintro (q | ⟨q, _⟩) <;> omega), if_pos ⟨rfl, hbad⟩]
        · unfold wharfingerref06_Put.f
          rw [if_neg (by omega), if_pos rfl, rPut_no 39 s m u g gs hbad, Option.bind_some]
          dsimp only
          rw [if_neg (by omega)]
      · have hm : m.size ≤ 255 := Nat.le_of_not_lt fun q => hbad (.inl q)
        have hg : gs.length ≤ 16 := Nat.le_of_not_lt fun q => hbad (.inr q)
        have he := r6put_end 31 (credB s m u g gs) x p v o 1 m s u g gs b h.hx h.hp h.hv h.ho h.hf (credB_most s m u g gs hm hg) hb (callB x p v o 1 m s u g gs) rfl
        refine ⟨(if 65536 < (callB x p v o 1 m s u g gs ++ b).length then (([] : List Int), (3 : Int)) else (callB x p v o 1 m s u g gs ++ b, 0)).1, (if 65536 < (callB x p v o 1 m s u g gs ++ b).length then (([] : List Int), (3 : Int)) else (callB x p v o 1 m s u g gs ++ b, 0)).2, ?_, ?_, ?_⟩
        · unfold calls_Put.f
          rw [if_pos ⟨⟨h.hs, h.hu, h.hg, by omega⟩, h.hm, h.hl, h.hb⟩, if_neg (by rintro (q | ⟨q, _⟩) <;> omega), if_neg (fun q => hbad q.2)]
        · unfold wharfingerref06_Put.f
          rw [if_neg (by omega), if_pos rfl, rPut_ok 39 s m u g gs h.hs h.hu h.hg h.hgs hm hg (by omega), Option.bind_some]
          dsimp only
          rw [if_pos rfl]
          exact he
        · by_cases hq : 65536 < (callB x p v o 1 m s u g gs ++ b).length
          · rw [if_pos hq]; simp
          · rw [if_neg hq]; show (callB x p v o 1 m s u g gs ++ b).length ≤ 65536; omega
    · refine ⟨[], 1, ?_, ?_, by simp⟩
      · unfold calls_Put.f
        rw [if_pos ⟨⟨h.hs, h.hu, h.hg, by omega⟩, h.hm, h.hl, h.hb⟩, if_pos (.inl (by omega))]
      · unfold wharfingerref06_Put.f
        rw [if_neg h0, if_neg h1]

/-- What is carried through the law on a call. -/
structure DK (w0 w : World) (K : Nat) (x p v o f : Int) (m : ByteArray) (s u g : Int) (A : Option Addr) (c : Nat) (gs : List Int) (B : Option Addr) (cb : Nat) (b : List Int) (A4 : Option Addr) (c4 : Nat) (B4 : Option Addr) (d4 : Nat) : Prop where
  be : Below w0.heap.size w0 w
  bx : Call11 w w0.heap.size x p v o f m s u g (.slice A gs.length c) (.slice B b.length cb)
  by_ : Call11 w K x p v o f m s u g (.slice A4 gs.length c4) (.slice B4 b.length d4)
  rg : Kd.C (Kd.int .u32) w A gs.length gs
  rb : Kd.C (Kd.int .u8) w B b.length b
  tg : Kd.C (Kd.int .u32) w A4 (gs ++ [77]).length (gs ++ [77])
  tb : Kd.C (Kd.int .u8) w B4 (b ++ [77]).length (b ++ [77])
  og : w.ownsRow w0.heap.size 22 1 (.slice A4 gs.length c4) gs.length (nums .u32 gs)
  ob : w.ownsRow w0.heap.size 5 1 (.slice B4 b.length d4) b.length (nums .u8 b)
theorem DK.step {w0 w w1 : World} {K : Nat} {x p v o f : Int} {m : ByteArray} {s u g : Int} {A : Option Addr} {c : Nat} {gs : List Int} {B : Option Addr} {cb : Nat} {b : List Int} {A4 : Option Addr} {c4 : Nat} {B4 : Option Addr} {d4 : Nat} (h : DK w0 w K x p v o f m s u g A c gs B cb b A4 c4 B4 d4) (hb : Below w.heap.size w w1) : DK w0 w1 K x p v o f m s u g A c gs B cb b A4 c4 B4 d4 :=
  ⟨below_then h.be h.be.size hb, h.bx.below hb, h.by_.below hb, Kd.C_below h.rg hb, Kd.C_below h.rb hb, Kd.C_below h.tg hb, Kd.C_below h.tb hb, pw_own_below h.og hb, pw_own_below h.ob hb⟩
set_option maxHeartbeats 8000000 in
set_option maxRecDepth 100000 in
theorem callsPuts_calls (x p v o f : Int) (m : ByteArray) (s u g : Int) (A : Option Addr) (c : Nat) (gs : List Int) (B : Option Addr) (cb : Nat) (b : List Int) (w : World) (hA : CallA x p v o f m s u g gs b) (hrg : Kd.C (Kd.int .u32) w A gs.length gs) (hc : gs.length ≤ c) (hrb : Kd.C (Kd.int .u8) w B b.length b) (hcb : b.length ≤ cb) :
    Calls Tryd.prog 3 #[.agg #[.int .u32 x, .int .u32 p, .int .u32 v, .int .u32 o, .int .u32 f, .string m, .int .u32 s, .int .u32 u, .int .u32 g, .slice A gs.length c, .slice B b.length cb]] w fun e w' => e = .returned (.bool true) ∧ Below w.heap.size w w' := by
  obtain ⟨wb, hwb⟩ : ∃ wb, w.alloc (.cells #[.int .u32 x, .int .u32 p, .int .u32 v, .int .u32 o, .int .u32 f, .string m, .int .u32 s, .int .u32 u, .int .u32 g, .slice A gs.length c, .slice B b.length cb] 28) = wb := ⟨_, rfl⟩
  have hb0 : Below w.heap.size w wb := hwb ▸ below_alloc (Below.refl w.heap.size w) _
  have hx : Call11 wb w.heap.size x p v o f m s u g (.slice A gs.length c) (.slice B b.length cb) := hwb ▸ call11_new w _ _ _ _ _ _ _ _ _ _ _
  obtain ⟨y0, y1, y2, y3, y4, y5, y6, y7, y8, y9, y10⟩ := hx.all
  rw [← hwb] at y0 y1 y2 y3 y4 y5 y6 y7 y8 y9 y10
  have HW := Aside0.mk hwb
  have HB := Aside0.mk hb0
  have HX := Aside0.mk hx
  have HRG := Aside0.mk (Kd.C_below hrg hb0)
  have HRB := Aside0.mk (Kd.C_below hrb hb0)
  have HC := Aside0.mk hc
  have HCB := Aside0.mk hcb
  have HA := Aside0.mk hA
  obtain ⟨q, hq, hq2⟩ := great_f x p v o f m s u g gs b
  have HQ := Aside0.mk hq
  have HQ2 := Aside0.mk hq2
  clear hrg hrb hwb hx hb0 hc hcb hA hq hq2
  go_enter Tryd.func3, Tryd.ntmps3
  go_wp2_with fail
  clear y0 y1 y2 y3 y4 y5 y6 y7 y8 y9 y10
  rw [HW.out]
  refine (wharfingerlaw06_great.calls x p v o f m s u g A c gs B cb b q wb HRG.out HC.out HRB.out HCB.out HQ.out).mono ?_
  rintro e w3 ⟨rfl, hb3⟩
  have hX3 := HX.out.below hb3
  have HB3 := Aside0.mk (below_then HB.out HB.out.size hb3)
  cases q with
  | true =>
    clear hb3 hX3
    go_wp2
    go_ret
    exact ⟨rfl, HB3.out⟩
  | false =>
    obtain ⟨hmz, hlz, hbz⟩ := HQ2.out (by first | rfl | trivial)
    obtain ⟨y0, y1, y2, y3, y4, y5, y6, y7, y8, y9, y10⟩ := hX3.all
    have HX3 := Aside0.mk hX3
    have HRG3 := Aside0.mk (Kd.C_below HRG.out hb3)
    have HRB3 := Aside0.mk (Kd.C_below HRB.out hb3)
    have HLB := Aside0.mk (show b.length ≤ 100000000 by omega)
    have HLG := Aside0.mk (show gs.length ≤ 100000000 by omega)
    have HTC := Aside0.mk (twinCall_calls x p v o f m s u g A c gs B cb b w3 HRG3.out HC.out (by omega) HRB3.out HCB.out (by omega))
    obtain ⟨r, e0, hp, hq, hrl⟩ := put06_both HA.out hbz
    have HPF := Aside0.mk hp
    have HQF := Aside0.mk hq
    have HXL := Aside0.mk (show r.length ≤ 100000000 by omega)
    have HSX := Aside0.mk (same_self (r.length + 1) r (by omega) (by omega))
    have ce : (e0 != e0) = false := by simp
    have HLS := Aside0.mk (show gs.length ≤ 2000000 ∧ b.length ≤ 2000000 by omega)
    clear hb3 hX3 HX HB HRG HRB HW hp hq hrl hmz hlz hbz
    go_wp2_with fail
    refine HTC.out.mono ?_
    rintro e w4 ⟨A4, c4, B4, d4, rfl, hc4, hd4, ho4, hp4, hb4⟩
    have hX4 := HX3.out.below hb4
    have hB4 := below_then HB3.out HB3.out.size hb4
    have hT4 : Kd.C (Kd.int .u32) w4 A4 (gs ++ [77]).length (gs ++ [77]) := (Kd.R_reads' ho4).2.2
    have hU4 : Kd.C (Kd.int .u8) w4 B4 (b ++ [77]).length (b ++ [77]) := (Kd.R_reads' hp4).2.2
    have hO4 := rowN_twin ho4 HB3.out.size
    have hP4 := row_twin hp4 HB3.out.size
    have HC4 := Aside0.mk hc4
    have HD4 := Aside0.mk hd4
    have hb5 := below_alloc (Below.refl w4.heap.size w4) (.cells #[.int .u32 x, .int .u32 p, .int .u32 v, .int .u32 o, .int .u32 f, .string m, .int .u32 s, .int .u32 u, .int .u32 g, .slice A4 gs.length c4, .slice B4 b.length d4] 28)
    obtain ⟨w5, hw5⟩ : ∃ w5, w4.alloc (.cells #[.int .u32 x, .int .u32 p, .int .u32 v, .int .u32 o, .int .u32 f, .string m, .int .u32 s, .int .u32 u, .int .u32 g, .slice A4 gs.length c4, .slice B4 b.length d4] 28) = w5 := ⟨_, rfl⟩
    rw [hw5] at hb5
    have HD5 := Aside0.mk (show DK w w5 w4.heap.size x p v o f m s u g A c gs B cb b A4 c4 B4 d4 from ⟨below_then hB4 hB4.size hb5, hX4.below hb5, hw5 ▸ call11_new w4 _ _ _ _ _ _ _ _ _ _ _, Kd.C_below (Kd.C_below HRG3.out hb4) hb5, Kd.C_below (Kd.C_below HRB3.out hb4) hb5, Kd.C_below hT4 hb5, Kd.C_below hU4 hb5, pw_own_below hO4 hb5, pw_own_below hP4 hb5⟩)
    clear y0 y1 y2 y3 y4 y5 y6 y7 y8 y9 y10
    obtain ⟨y0, y1, y2, y3, y4, y5, y6, y7, y8, y9, y10⟩ := HD5.out.by_.all
    rw [← hw5] at y0 y1 y2 y3 y4 y5 y6 y7 y8 y9 y10
    have HW5 := Aside0.mk hw5
    clear hX4 hB4 hT4 hU4 hO4 hP4 hc4 hd4 hb4 ho4 hp4 hb5 hw5 HX3 HB3 HRG3 HRB3 HTC
    go_wp2_with fail
    rw [HW5.out]
    refine (calls_Put.calls x p v o f m s u g A4 c4 gs B4 d4 b r e0 _ (front_ HD5.out.tg) (Nat.le_of_lt HC4.out) (front_ HD5.out.tb) (Nat.le_of_lt HD4.out) HPF.out).mono ?_
    rintro e w6 ⟨v6, rfl, ho6, hb6⟩
    have hbb6 : Below w5.heap.size w5 w6 := hb6
    obtain ⟨A6, c6, rfl, hc6, hR6⟩ := OB_reads ho6
    have FT_6 := Aside0.mk (later_than HD5.out.ob (Kd.own_of_R ho6) (Nat.le_refl _))
    have hx6 := DX.new (w0 := w) ho6 HD5.out.be.size hc6 hR6
    have HD6 := Aside0.mk (HD5.out.step hbb6)
    clear hbb6 HD5 hb6 ho6 hc6 hR6
    have HX6_6 := Aside0.mk hx6
    clear hx6
    clear y0 y1 y2 y3 y4 y5 y6 y7 y8 y9 y10 HW5
    obtain ⟨y0, y1, y2, y3, y4, y5, y6, y7, y8, y9, y10⟩ := (HD6.out.by_).all
    go_wp2_with fail
    refine (calls_Put.calls x p v o f m s u g A4 c4 gs B4 d4 b r e0 _ (front_ HD6.out.tg) (Nat.le_of_lt HC4.out) (front_ HD6.out.tb) (Nat.le_of_lt HD4.out) HPF.out).mono ?_
    rintro e w7 ⟨v7, rfl, ho7, hb7⟩
    have hbb7 : Below w6.heap.size w6 w7 := hb7
    obtain ⟨A7, c7, rfl, hc7, hR7⟩ := OB_reads ho7
    have F6_7 := Aside0.mk (later_than HX6_6.out.o (Kd.own_of_R ho7) (Nat.le_refl _))
    have FT_7 := Aside0.mk (later_than HD6.out.ob (Kd.own_of_R ho7) (Nat.le_refl _))
    have hx7 := DX.new (w0 := w) ho7 HD6.out.be.size hc7 hR7
    have HD7 := Aside0.mk (HD6.out.step hbb7)
    have HX6_7 := Aside0.mk (HX6_6.out.step hbb7)
    clear hbb7 HD6 HX6_6 y0 y1 y2 y3 y4 y5 y6 y7 y8 y9 y10 hb7 ho7 hc7 hR7
    have HX7_7 := Aside0.mk hx7
    clear hx7
    obtain ⟨k0, k1, k2, k3, k4, k5, k6, k7, k8, k9, k10⟩ := (HD7.out.bx).all
    go_wp2_with fail
    refine (wharfingerref06_Put.calls 40 x p v o f m s u g A c gs B cb b r e0 _ HD7.out.rg HC.out HD7.out.rb HCB.out HQF.out).mono ?_
    rintro e w8 ⟨v8, rfl, ho8, hb8⟩
    have hbb8 : Below w7.heap.size w7 w8 := hb8
    obtain ⟨A8, c8, rfl, hc8, hR8⟩ := OB_reads ho8
    have F6_8 := Aside0.mk (later_than HX6_7.out.o (Kd.own_of_R ho8) (Nat.le_refl _))
    have F7_8 := Aside0.mk (later_than HX7_7.out.o (Kd.own_of_R ho8) (Nat.le_refl _))
    have FT_8 := Aside0.mk (later_than HD7.out.ob (Kd.own_of_R ho8) (Nat.le_refl _))
    have hx8 := DX.new (w0 := w) ho8 HD7.out.be.size hc8 hR8
    have HD8 := Aside0.mk (HD7.out.step hbb8)
    have HX6_8 := Aside0.mk (HX6_7.out.step hbb8)
    have HX7_8 := Aside0.mk (HX7_7.out.step hbb8)
    clear hbb8 HD7 HX6_7 HX7_7 k0 k1 k2 k3 k4 k5 k6 k7 k8 k9 k10 hb8 ho8 hc8 hR8
    have HX8_8 := Aside0.mk hx8
    clear hx8
    go_wp2_with fail
    refine (wharfingerlaw01_SameBytes.calls (r.length + 1) _ _ r _ _ r true _ HX6_8.out.r HX6_8.out.c HX8_8.out.r HX8_8.out.c HSX.out).mono ?_
    rintro e w9 ⟨rfl, ⟨hdr9⟩⟩
    have hbb9 : Below w8.heap.size w8 w9 := (Drawn0.below ⟨hdr9⟩)
    have HD9 := Aside0.mk (HD8.out.step hbb9)
    have HX6_9 := Aside0.mk (HX6_8.out.step hbb9)
    have HX7_9 := Aside0.mk (HX7_8.out.step hbb9)
    have HX8_9 := Aside0.mk (HX8_8.out.step hbb9)
    clear hbb9 HD8 HX6_8 HX7_8 HX8_8
    clear hdr9
    go_wp2_with fail
    refine (wharfingerlaw01_SameBytes.calls (r.length + 1) _ _ r _ _ r true _ HX7_9.out.r HX7_9.out.c HX8_9.out.r HX8_9.out.c HSX.out).mono ?_
    rintro e w10 ⟨rfl, ⟨hdr10⟩⟩
    have hbb10 : Below w9.heap.size w9 w10 := (Drawn0.below ⟨hdr10⟩)
    have HD10 := Aside0.mk (HD9.out.step hbb10)
    have HX6_10 := Aside0.mk (HX6_9.out.step hbb10)
    have HX7_10 := Aside0.mk (HX7_9.out.step hbb10)
    have HX8_10 := Aside0.mk (HX8_9.out.step hbb10)
    clear hbb10 HD9 HX6_9 HX7_9 HX8_9
    clear hdr10
    obtain ⟨y0, y1, y2, y3, y4, y5, y6, y7, y8, y9, y10⟩ := (HD10.out.by_).all
    obtain ⟨k0, k1, k2, k3, k4, k5, k6, k7, k8, k9, k10⟩ := (HD10.out.bx).all
    go_wp2_with fail
    refine (leftCall_calls x p v o f m s u g A4 c4 A c gs B4 d4 B cb b _ HD10.out.tg HC4.out HD10.out.rg HC.out HLS.out.1 HD10.out.tb HD4.out HD10.out.rb HCB.out HLS.out.2).mono ?_
    rintro e w11 ⟨rfl, hb11⟩
    have hbb11 : Below w10.heap.size w10 w11 := hb11
    have HD11 := Aside0.mk (HD10.out.step hbb11)
    have HX6_11 := Aside0.mk (HX6_10.out.step hbb11)
    have HX7_11 := Aside0.mk (HX7_10.out.step hbb11)
    have HX8_11 := Aside0.mk (HX8_10.out.step hbb11)
    clear hbb11 HD10 HX6_10 HX7_10 HX8_10 y0 y1 y2 y3 y4 y5 y6 y7 y8 y9 y10 k0 k1 k2 k3 k4 k5 k6 k7 k8 k9 k10 hb11
    have HBK := Aside0.mk (book_new (ns := [ent A4 gs.length c4 1]) (bs := [ent B4 b.length d4 2, ent A6 r.length c6 3, ent A7 r.length c7 4]) HD11.out.be (rows3 HD11.out.ob HX6_11.out.o HX7_11.out.o) (rowsN1 HD11.out.og) (far3 FT_6.out FT_7.out F6_7.out) (farN1 _) (nb3 HLB.out HXL.out HXL.out (by decide) (by decide) (by decide)) (nb1 HLG.out (by decide)) (len_le3 _ _ _) (len_le1 _))
    have hyb := HD11.out.by_.below (below_alloc (Below.refl w11.heap.size w11) (.cells #[.int .i64 0, .slice none 0 0, .slice none 0 0, .slice none 0 0, .slice none 0 0, .slice none 0 0, .slice none 0 0, .slice none 0 0] 44))
    obtain ⟨y0, y1, y2, y3, y4, y5, y6, y7, y8, y9, y10⟩ := hyb.all
    clear hyb
    go_wp2_with fail
    refine (call_keep2 w _ _ 0 0 0 [ent B4 b.length d4 2, ent A6 r.length c6 3, ent A7 r.length c7 4] [ent A4 gs.length c4 1] x p v o f m s u g A4 gs.length c4 B4 b.length d4 HBK.out (lt01 _) rfl (lt03 _ _ _) rfl (by decide) (by decide)).mono ?_
    rintro e wk0 ⟨rfl, hs0⟩
    have HS0_ := Aside0.mk hs0.1
    clear hs0 HBK y0 y1 y2 y3 y4 y5 y6 y7 y8 y9 y10
    go_wp2_with fail
    refine (bytes_keep w _ _ (0 + 1 + 1) (0 + 1) (0 + 1) [ent B4 b.length d4 2, ent A6 r.length c6 3, ent A7 r.length c7 4] [ent A4 gs.length c4 1] A6 r.length c6 HS0_.out (lt13 _ _ _) rfl (by decide) (by decide)).mono ?_
    rintro e wk1 ⟨rfl, hs1⟩
    have HS1_ := Aside0.mk hs1
    clear hs1 HS0_
    go_wp2_with fail
    refine (bytes_keep w _ _ (0 + 1 + 1 + 1) (0 + 1 + 1) (0 + 1) [ent B4 b.length d4 2, ent A6 r.length c6 3, ent A7 r.length c7 4] [ent A4 gs.length c4 1] A7 r.length c7 HS1_.out (lt23 _ _ _) rfl (by decide) (by decide)).mono ?_
    rintro e wk2 ⟨rfl, hs2⟩
    have HS2_ := Aside0.mk hs2
    clear hs2 HS1_
    go_wp2_with fail
    refine (apart_calls w _ _ _ [ent B4 b.length d4 2, ent A6 r.length c6 3, ent A7 r.length c7 4] [ent A4 gs.length c4 1] HS2_.out).mono ?_
    rintro e wz ⟨rfl, hbz⟩
    go_wp2
    go_ret
    exact ⟨rfl, hbz⟩
end Go.Proofs.YtoalknneifpehaaDoor.Hand
