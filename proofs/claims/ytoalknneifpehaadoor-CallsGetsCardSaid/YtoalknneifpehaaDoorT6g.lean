import Derived.Test.YtoalknneifpehaaDoorX6g
namespace Go.Proofs.YtoalknneifpehaaDoor.Hand
open Go.RowKit Go.Proofs.YtoalknneifpehaaDoor.GB Go.Proofs.YtoalknneifpehaaDoor.GC Go.Proofs.YtoalknneifpehaaDoorW.PrintWords Go.Proofs.YtoalknneifpehaaDoorW.PrintLast Go.Proofs.YtoalknneifpehaaDoorW.PrintMore
set_option linter.unusedVariables false
set_option linter.unusedSimpArgs false

theorem Call11.all {w : World} {C : Nat} {x p v o f : Int} {m : ByteArray} {s u g : Int} {Vg Vb : Value} (h : Call11 w C x p v o f m s u g Vg Vb) : w.cell? ⟨C, 0, none⟩ = some (.int .u32 x) ∧ w.cell? ⟨C, 1, none⟩ = some (.int .u32 p) ∧ w.cell? ⟨C, 2, none⟩ = some (.int .u32 v) ∧ w.cell? ⟨C, 3, none⟩ = some (.int .u32 o) ∧ w.cell? ⟨C, 4, none⟩ = some (.int .u32 f) ∧ w.cell? ⟨C, 5, none⟩ = some (.string m) ∧ w.cell? ⟨C, 6, none⟩ = some (.int .u32 s) ∧ w.cell? ⟨C, 7, none⟩ = some (.int .u32 u) ∧ w.cell? ⟨C, 8, none⟩ = some (.int .u32 g) ∧ w.cell? ⟨C, 9, none⟩ = some (Vg) ∧ w.cell? ⟨C, 10, none⟩ = some (Vb) :=
  ⟨h.c0, h.c1, h.c2, h.c3, h.c4, h.c5, h.c6, h.c7, h.c8, h.c9, h.c10⟩
theorem Call11.held {w : World} {C : Nat} {x p v o f : Int} {m : ByteArray} {s u g : Int} {Vg Vb : Value} (h : Call11 w C x p v o f m s u g Vg Vb) : w.cell? ⟨C, 0, none⟩ = some (.int .u32 x) ∧ w.cell? ⟨C, 1, none⟩ = some (.int .u32 p) ∧ w.cell? ⟨C, 2, none⟩ = some (.int .u32 v) ∧ w.cell? ⟨C, 3, none⟩ = some (.int .u32 o) ∧ w.cell? ⟨C, 4, none⟩ = some (.int .u32 f) ∧ w.cell? ⟨C, 5, none⟩ = some (.string m) ∧ w.cell? ⟨C, 6, none⟩ = some (.int .u32 s) ∧ w.cell? ⟨C, 10, none⟩ = some (Vb) ∧ w.rangeAt C 7 [.int .u32 u, .int .u32 g, Vg] :=
  ⟨h.c0, h.c1, h.c2, h.c3, h.c4, h.c5, h.c6, h.c10, fun j q hq => by
    match j, hq with
    | 0, hq => rw [show 7 + 0 = 7 from rfl, h.c7]; simpa using hq
    | 1, hq => rw [show 7 + 1 = 8 from rfl, h.c8]; simpa using hq
    | 2, hq => rw [show 7 + 2 = 9 from rfl, h.c9]; simpa using hq
    | j + 3, hq => simp at hq⟩
theorem there_of {w : World} {C n : Nat} {a : Array Value} (h : Blk11 w C a) (hn : a.size = n) : World.there w C 0 n := fun j hj => ⟨by
  rw [show (0 + j) = j by omega, h.cell j, Array.getElem?_eq_getElem (by rw [hn]; exact hj)]; rfl, h.fz (0 + j)⟩
theorem Call11.kept {w w1 : World} {C : Nat} {x p v o f : Int} {m : ByteArray} {s u g : Int} {Vg Vb : Value} (h : Call11 w C x p v o f m s u g Vg Vb) (hk : TK BKT w w1) : Call11 w1 C x p v o f m s u g Vg Vb :=
  (hk.block C _ _ _ h (by unfold BKT; decide)).trans h
set_option maxHeartbeats 8000000 in
set_option maxRecDepth 100000 in
theorem twinCall_calls (x p v o f : Int) (m : ByteArray) (s u g : Int) (A : Option Addr) (c : Nat) (gs : List Int) (B : Option Addr) (cb : Nat) (b : List Int) (w : World) (hR : Kd.C (Kd.int .u32) w A gs.length gs) (hc : gs.length ≤ c) (hl : gs.length ≤ 2000000) (hRb : Kd.C (Kd.int .u8) w B b.length b) (hcb : b.length ≤ cb) (hlb : b.length ≤ 2000000) :
    Calls Tryd.prog 6 #[.agg #[.int .u32 x, .int .u32 p, .int .u32 v, .int .u32 o, .int .u32 f, .string m, .int .u32 s, .int .u32 u, .int .u32 g, .slice A gs.length c, .slice B b.length cb]] w fun e w' => ∃ A1 c1 B1 d1, e = .returned (.agg #[.int .u32 x, .int .u32 p, .int .u32 v, .int .u32 o, .int .u32 f, .string m, .int .u32 s, .int .u32 u, .int .u32 g, .slice A1 gs.length c1, .slice B1 b.length d1]) ∧ gs.length < c1 ∧ b.length < d1 ∧ Kd.R (Kd.int .u32) 22 w' w.heap.size (fun _ => True) (.slice A1 (gs.length + 1) c1) (gs ++ [77]) ∧ Kd.R (Kd.int .u8) 5 w' w.heap.size (fun _ => True) (.slice B1 (b.length + 1) d1) (b ++ [77]) ∧ Below w.heap.size w w' := by
  obtain ⟨wb, hwb⟩ : ∃ wb, (w.alloc (.cells #[.int .u32 x, .int .u32 p, .int .u32 v, .int .u32 o, .int .u32 f, .string m, .int .u32 s, .int .u32 u, .int .u32 g, .slice A gs.length c, .slice B b.length cb] 28)).alloc (.cells #[.int .u32 0, .int .u32 0, .int .u32 0, .int .u32 0, .int .u32 0, .string ⟨#[]⟩, .int .u32 0, .int .u32 0, .int .u32 0, .slice none 0 0, .slice none 0 0] 28) = wb := ⟨_, rfl⟩
  have hb0 : Below w.heap.size w wb := hwb ▸ below_alloc (below_alloc (Below.refl w.heap.size w) _) _
  have hz : wb.heap.size = w.heap.size + 2 := by rw [← hwb]; simp
  have hd : Blk11 wb (w.heap.size + 1) #[.int .u32 0, .int .u32 0, .int .u32 0, .int .u32 0, .int .u32 0, .string ⟨#[]⟩, .int .u32 0, .int .u32 0, .int .u32 0, .slice none 0 0, .slice none 0 0] := by
    have h := call11_new (w.alloc (.cells #[.int .u32 x, .int .u32 p, .int .u32 v, .int .u32 o, .int .u32 f, .string m, .int .u32 s, .int .u32 u, .int .u32 g, .slice A gs.length c, .slice B b.length cb] 28)) 0 0 0 0 0 ⟨#[]⟩ 0 0 0 (.slice none 0 0) (.slice none 0 0)
    rw [hwb, show (w.alloc (.cells #[.int .u32 x, .int .u32 p, .int .u32 v, .int .u32 o, .int .u32 f, .string m, .int .u32 s, .int .u32 u, .int .u32 g, .slice A gs.length c, .slice B b.length cb] 28)).heap.size = w.heap.size + 1 by simp] at h
    exact h
  have HX := Aside0.mk (show Call11 wb w.heap.size x p v o f m s u g (.slice A gs.length c) (.slice B b.length cb) from hwb ▸ Call11.below (call11_new w _ _ _ _ _ _ _ _ _ _ _) (below_alloc (Below.refl _ _) _))
  have HW := Aside0.mk hwb
  have HD := Aside0.mk hd
  have HB := Aside0.mk hb0
  have HZ := Aside0.mk hz
  have HR := Aside0.mk (Kd.C_below hR hb0)
  have HRB := Aside0.mk (Kd.C_below hRb hb0)
  clear hR hRb hwb hd hb0 hz
  go_enter Tryd.func6, Tryd.ntmps6
  go_wp2_with fail
  rw [HW.out]
  have hu := Tryd.underlying25
  have hi : (Tryd.prog.info? 25).map (·.size) = some ([.int .u32 u, .int .u32 g, .slice A gs.length c] : List Value).length := by kernel_rfl
  have HXD : Call11 wb.drew w.heap.size x p v o f m s u g (.slice A gs.length c) (.slice B b.length cb) := HX.out
  go_region_held3 (fun w' => w'.cell? ⟨w.heap.size, 0, none⟩ = some (.int .u32 x) ∧ w'.cell? ⟨w.heap.size, 1, none⟩ = some (.int .u32 p) ∧ w'.cell? ⟨w.heap.size, 2, none⟩ = some (.int .u32 v) ∧ w'.cell? ⟨w.heap.size, 3, none⟩ = some (.int .u32 o) ∧ w'.cell? ⟨w.heap.size, 4, none⟩ = some (.int .u32 f) ∧ w'.cell? ⟨w.heap.size, 5, none⟩ = some (.string m) ∧ w'.cell? ⟨w.heap.size, 6, none⟩ = some (.int .u32 s) ∧ w'.cell? ⟨w.heap.size, 7, none⟩ = some (.int .u32 u) ∧ w'.cell? ⟨w.heap.size, 8, none⟩ = some (.int .u32 g) ∧ w'.cell? ⟨w.heap.size, 9, none⟩ = some (.slice A gs.length c) ∧ w'.cell? ⟨w.heap.size, 10, none⟩ = some (.slice B b.length cb)) (first | with_reducible exact HX2.all | with_reducible exact HX1.all | with_reducible exact HXD.all | go_keep)
    (first | (go_at_call 19; refine (twinCred_calls u g A c gs wb.drew HR.out hc hl).mono ?_; rintro e w1 ⟨A1, c1, rfl, hc1, ho1, hb1⟩; have HD1 := (show Blk11 wb.drew _ _ from HD.out); have HX1 := Call11.below (w := wb.drew) HX.out hb1) | (go_at_call 14; refine (twinBytes_calls B cb b w1 (Kd.C_below (w := wb.drew) HRB.out hb1) hcb hlb).mono ?_; rintro e w2 ⟨B1, d1, rfl, hd1, ho2, hb2⟩; have HD2 := (show Blk11 w2 (w.heap.size + 1) _ from (hb2.block _ (Nat.lt_of_lt_of_le (show w.heap.size + 1 < wb.drew.heap.size from by have := HZ.out; show _ < wb.heap.size; omega) hb1.size)).trans ((hb1.block _ (show w.heap.size + 1 < wb.drew.heap.size from by have := HZ.out; show _ < wb.heap.size; omega)).trans HD1)); have HX2 := Call11.below HX1 hb2; have x0 := HD2.cell 0; have f0 := HD2.fz 0; have x1 := HD2.cell 1; have f1 := HD2.fz 1; have x2 := HD2.cell 2; have f2 := HD2.fz 2; have x3 := HD2.cell 3; have f3 := HD2.fz 3; have x4 := HD2.cell 4; have f4 := HD2.fz 4; have x5 := HD2.cell 5; have f5 := HD2.fz 5; have x6 := HD2.cell 6; have f6 := HD2.fz 6; have x7 := HD2.cell 7; have f7 := HD2.fz 7; have x8 := HD2.cell 8; have f8 := HD2.fz 8; have x9 := HD2.cell 9; have f9 := HD2.fz 9; have x10 := HD2.cell 10; have f10 := HD2.fz 10))
  go_wp2
  have hz := HZ.out
  obtain ⟨ws, hws⟩ : ∃ ws, World.setCells w2 (w.heap.size + 1) 0 [.int .u32 x, .int .u32 p, .int .u32 v, .int .u32 o, .int .u32 f, .string m, .int .u32 s, .int .u32 u, .int .u32 g, .slice A1 gs.length c1, .slice B1 b.length d1] = ws := ⟨_, rfl⟩
  have hf0 : Blk11 ws (w.heap.size + 1) #[.int .u32 x, .int .u32 p, .int .u32 v, .int .u32 o, .int .u32 f, .string m, .int .u32 s, .int .u32 u, .int .u32 g, .slice A1 gs.length c1, .slice B1 b.length d1] := by
    have h := Blk11.sets [.int .u32 x, .int .u32 p, .int .u32 v, .int .u32 o, .int .u32 f, .string m, .int .u32 s, .int .u32 u, .int .u32 g, .slice A1 gs.length c1, .slice B1 b.length d1] 0 _ _ HD2
    rw [sets11] at h
    rw [← hws]
    exact h
  have hch : (((((((((((w2.setCell ⟨w.heap.size + 1, 0, none⟩ (.int .u32 x)).setCell ⟨w.heap.size + 1, 1, none⟩ (.int .u32 p)).setCell ⟨w.heap.size + 1, 2, none⟩ (.int .u32 v)).setCell ⟨w.heap.size + 1, 3, none⟩ (.int .u32 o)).setCell ⟨w.heap.size + 1, 4, none⟩ (.int .u32 f)).setCell ⟨w.heap.size + 1, 5, none⟩ (.string m)).setCell ⟨w.heap.size + 1, 6, none⟩ (.int .u32 s)).setCell ⟨w.heap.size + 1, 7, none⟩ (.int .u32 u)).setCell ⟨w.heap.size + 1, 8, none⟩ (.int .u32 g)).setCell ⟨w.heap.size + 1, 9, none⟩ (.slice A1 gs.length c1)).setCell ⟨w.heap.size + 1, 10, none⟩ (.slice B1 b.length d1)) = ws := hws
  rw [hch]
  have hf := hf0
  have z0 := hf.cell 0; have z1 := hf.cell 1; have z2 := hf.cell 2; have z3 := hf.cell 3; have z4 := hf.cell 4; have z5 := hf.cell 5; have z6 := hf.cell 6; have z7 := hf.cell 7; have z8 := hf.cell 8; have z9 := hf.cell 9; have z10 := hf.cell 10
  have hzd : wb.drew.heap.size = w.heap.size + 2 := hz
  have hz1 := hb1.size
  have ho1b := Kd.R_below ho1 hb2
  have hmv : ∀ k, w.heap.size + 2 ≤ k → ws.heap[k]? = w2.heap[k]? := fun k hk => by rw [← hws]; exact setCells_heap _ _ _ _ _ (by omega)
  have hp1 := R_moved (w1 := ws) (base' := w.heap.size) ho1b (fun k hk _ => hmv k (by omega)) (by omega)
  have hp2 := R_moved (w1 := ws) (base' := w.heap.size) ho2 (fun k hk _ => hmv k (by omega)) (by omega)
  have hbf : Below w.heap.size w w2 := below_then (below_then (below_drew1 HB.out) HB.out.size hb1) (by omega) hb2
  exact bodyPost_ret (v := .agg #[.int .u32 x, .int .u32 p, .int .u32 v, .int .u32 o, .int .u32 f, .string m, .int .u32 s, .int .u32 u, .int .u32 g, .slice A1 gs.length c1, .slice B1 b.length d1]) (by simp [results, Tryd.results6, go_sem, z0, z1, z2, z3, z4, z5, z6, z7, z8, z9, z10] <;> rfl) rfl ⟨A1, c1, B1, d1, rfl, hc1, hd1, hp1, hp2, by rw [← hws]; exact below_setCells (w.heap.size + 1) (Nat.le_succ _) _ _ _ hbf⟩
set_option maxHeartbeats 8000000 in
set_option maxRecDepth 100000 in
theorem leftCall_calls (x p v o f : Int) (m : ByteArray) (s u g : Int) (A0 : Option Addr) (c0 : Nat) (A : Option Addr) (c : Nat) (gs : List Int) (B0 : Option Addr) (d0 : Nat) (B : Option Addr) (cb : Nat) (b : List Int) (w : World) (hT : Kd.C (Kd.int .u32) w A0 (gs ++ [77]).length (gs ++ [77])) (h0 : gs.length < c0) (hR : Kd.C (Kd.int .u32) w A gs.length gs) (hc : gs.length ≤ c) (hl : gs.length ≤ 2000000) (hTb : Kd.C (Kd.int .u8) w B0 (b ++ [77]).length (b ++ [77])) (hb0 : b.length < d0) (hRb : Kd.C (Kd.int .u8) w B b.length b) (hcb : b.length ≤ cb) (hlb : b.length ≤ 2000000) :
    Calls Tryd.prog 10 #[.agg #[.int .u32 x, .int .u32 p, .int .u32 v, .int .u32 o, .int .u32 f, .string m, .int .u32 s, .int .u32 u, .int .u32 g, .slice A0 gs.length c0, .slice B0 b.length d0], .agg #[.int .u32 x, .int .u32 p, .int .u32 v, .int .u32 o, .int .u32 f, .string m, .int .u32 s, .int .u32 u, .int .u32 g, .slice A gs.length c, .slice B b.length cb]] w fun e w' => e = .returned (.bool true) ∧ Below w.heap.size w w' := by
  obtain ⟨wb, hwb⟩ : ∃ wb, (w.alloc (.cells #[.int .u32 x, .int .u32 p, .int .u32 v, .int .u32 o, .int .u32 f, .string m, .int .u32 s, .int .u32 u, .int .u32 g, .slice A0 gs.length c0, .slice B0 b.length d0] 28)).alloc (.cells #[.int .u32 x, .int .u32 p, .int .u32 v, .int .u32 o, .int .u32 f, .string m, .int .u32 s, .int .u32 u, .int .u32 g, .slice A gs.length c, .slice B b.length cb] 28) = wb := ⟨_, rfl⟩
  have hbb : Below w.heap.size w wb := hwb ▸ below_alloc (below_alloc (Below.refl w.heap.size w) _) _
  have HX := Aside0.mk (show Call11 wb w.heap.size x p v o f m s u g (.slice A0 gs.length c0) (.slice B0 b.length d0) from hwb ▸ Call11.below (call11_new w _ _ _ _ _ _ _ _ _ _ _) (below_alloc (Below.refl _ _) _))
  have HD := Aside0.mk (show Call11 wb (w.heap.size + 1) x p v o f m s u g (.slice A gs.length c) (.slice B b.length cb) from by
    have h := call11_new (w.alloc (.cells #[.int .u32 x, .int .u32 p, .int .u32 v, .int .u32 o, .int .u32 f, .string m, .int .u32 s, .int .u32 u, .int .u32 g, .slice A0 gs.length c0, .slice B0 b.length d0] 28)) x p v o f m s u g (.slice A gs.length c) (.slice B b.length cb)
    rw [hwb, show (w.alloc (.cells #[.int .u32 x, .int .u32 p, .int .u32 v, .int .u32 o, .int .u32 f, .string m, .int .u32 s, .int .u32 u, .int .u32 g, .slice A0 gs.length c0, .slice B0 b.length d0] 28)).heap.size = w.heap.size + 1 by simp] at h
    exact h)
  have HW := Aside0.mk hwb
  have HB := Aside0.mk hbb
  have HT := Aside0.mk (Kd.C_below hT hbb)
  have HR := Aside0.mk (Kd.C_below hR hbb)
  have HTB := Aside0.mk (Kd.C_below hTb hbb)
  have HRB := Aside0.mk (Kd.C_below hRb hbb)
  have y0 : wb.cell? ⟨w.heap.size, 0, none⟩ = some (.int .u32 x) := HX.out.c0
  have y1 : wb.cell? ⟨w.heap.size, 1, none⟩ = some (.int .u32 p) := HX.out.c1
  have y2 : wb.cell? ⟨w.heap.size, 2, none⟩ = some (.int .u32 v) := HX.out.c2
  have y3 : wb.cell? ⟨w.heap.size, 3, none⟩ = some (.int .u32 o) := HX.out.c3
  have y4 : wb.cell? ⟨w.heap.size, 4, none⟩ = some (.int .u32 f) := HX.out.c4
  have y5 : wb.cell? ⟨w.heap.size, 5, none⟩ = some (.string m) := HX.out.c5
  have y6 : wb.cell? ⟨w.heap.size, 6, none⟩ = some (.int .u32 s) := HX.out.c6
  have y7 : wb.cell? ⟨w.heap.size, 7, none⟩ = some (.int .u32 u) := HX.out.c7
  have y8 : wb.cell? ⟨w.heap.size, 8, none⟩ = some (.int .u32 g) := HX.out.c8
  have y9 : wb.cell? ⟨w.heap.size, 9, none⟩ = some (.slice A0 gs.length c0) := HX.out.c9
  have y10 : wb.cell? ⟨w.heap.size, 10, none⟩ = some (.slice B0 b.length d0) := HX.out.c10
  have d0 : wb.cell? ⟨(w.heap.size + 1), 0, none⟩ = some (.int .u32 x) := HD.out.c0
  have d1 : wb.cell? ⟨(w.heap.size + 1), 1, none⟩ = some (.int .u32 p) := HD.out.c1
  have d2 : wb.cell? ⟨(w.heap.size + 1), 2, none⟩ = some (.int .u32 v) := HD.out.c2
  have d3 : wb.cell? ⟨(w.heap.size + 1), 3, none⟩ = some (.int .u32 o) := HD.out.c3
  have d4 : wb.cell? ⟨(w.heap.size + 1), 4, none⟩ = some (.int .u32 f) := HD.out.c4
  have d5 : wb.cell? ⟨(w.heap.size + 1), 5, none⟩ = some (.string m) := HD.out.c5
  have d6 : wb.cell? ⟨(w.heap.size + 1), 6, none⟩ = some (.int .u32 s) := HD.out.c6
  have d7 : wb.cell? ⟨(w.heap.size + 1), 7, none⟩ = some (.int .u32 u) := HD.out.c7
  have d8 : wb.cell? ⟨(w.heap.size + 1), 8, none⟩ = some (.int .u32 g) := HD.out.c8
  have d9 : wb.cell? ⟨(w.heap.size + 1), 9, none⟩ = some (.slice A gs.length c) := HD.out.c9
  have d10 : wb.cell? ⟨(w.heap.size + 1), 10, none⟩ = some (.slice B b.length cb) := HD.out.c10
  rw [← hwb] at y0 d0 y1 d1 y2 d2 y3 d3 y4 d4 y5 d5 y6 d6 y7 d7 y8 d8 y9 d9 y10 d10
  clear hT hR hTb hRb hwb hbb
  go_enter Tryd.func10, Tryd.ntmps10
  go_wp2_with fail
  clear y0 d0 y1 d1 y2 d2 y3 d3 y4 d4 y5 d5 y6 d6 y7 d7 y8 d8 y9 d9 y10 d10
  rw [HW.out]
  refine (leftCred_calls u g A0 c0 A c gs wb HT.out h0 HR.out hc hl).mono ?_
  rintro e w1 ⟨rfl, hb1⟩
  have y10 := (HX.out.below hb1).c10
  have d10 := (HD.out.below hb1).c10
  have HB1 := Aside0.mk (below_then HB.out HB.out.size hb1)
  have HTB1 := Aside0.mk (Kd.C_below HTB.out hb1)
  have HRB1 := Aside0.mk (Kd.C_below HRB.out hb1)
  clear hb1
  go_wp2_with fail
  refine (leftBytes_calls B0 d0 B cb b w1 HTB1.out hb0 HRB1.out hcb hlb).mono ?_
  rintro e w2 ⟨rfl, ⟨nd, rfl⟩⟩
  go_wp2
  go_ret
  exact ⟨rfl, pw_below_drewN HB1.out nd⟩
set_option maxHeartbeats 4000000 in
theorem call_keep2 (w0 w : World) (K : Nat) (nn : Int) (mb mn : Nat) (bs ns : List Ent) (x p v o f : Int) (m : ByteArray) (s u g : Int) (la : Option Addr) (len lc : Nat) (lb : Option Addr) (len2 lc2 : Nat) (h : BookS w0 w K nn mb mn bs ns) (hm : mn < ns.length) (he : ns[mn] = ⟨la, len, lc, none, 0, 0, nn + 1⟩) (hmb : mb < bs.length) (heb : bs[mb] = ⟨lb, len2, lc2, none, 0, 0, nn + 1 + 1⟩) (h0 : 0 ≤ nn) (h1 : nn + 1 ≤ 100) :
    Calls Tryd.prog 11 #[.pointer (some ⟨K, 0, none⟩), .agg #[.int .u32 x, .int .u32 p, .int .u32 v, .int .u32 o, .int .u32 f, .string m, .int .u32 s, .int .u32 u, .int .u32 g, .slice la len lc, .slice lb len2 lc2]] w fun e w' => e = .returned (.tuple #[]) ∧ BookS w0 w' K (nn + 1 + 1) (mb + 1) (mn + 1) bs ns ∧ TK BKT w w' := by
  have HC1 := Aside0.mk (fun W (hW : BookS w0 W K nn mb mn bs ns) => cred_keep2 w0 W K nn mb mn bs ns u g la len lc hW hm he h0 (by omega))
  have HC2 := Aside0.mk (fun W (hW : BookS w0 W K (nn + 1) mb (mn + 1) bs ns) => bytes_keep2 w0 W K (nn + 1) mb (mn + 1) bs ns lb len2 lc2 hW hmb heb (by omega) h1)
  have hb0 := below_alloc (Below.refl w.heap.size w) (.cells #[.int .u32 x, .int .u32 p, .int .u32 v, .int .u32 o, .int .u32 f, .string m, .int .u32 s, .int .u32 u, .int .u32 g, .slice la len lc, .slice lb len2 lc2] 28)
  have HT0 := Aside0.mk (TK.of_below (hb0 : Below w.heap.size w _) BKT)
  have H := Aside0.mk (h.step hb0)
  have hk := call11_new w x p v o f m s u g (.slice la len lc) (.slice lb len2 lc2)
  have HK := Aside0.mk hk
  have y7 := hk.c7
  have y8 := hk.c8
  have y9 := hk.c9
  clear h he heb hb0 hk
  go_enter Tryd.func11, Tryd.ntmps11
  go_wp2_with fail
  clear y7 y8 y9
  refine (HC1.out _ H.out).mono ?_
  rintro e w1 ⟨rfl, hs, ht⟩
  have HE := Aside0.mk hs
  have HF := Aside0.mk (HT0.out.trans ht)
  have y10 := (HK.out.kept ht).c10
  clear hs ht
  go_wp2_with fail
  refine (HC2.out _ HE.out).mono ?_
  rintro e w2 ⟨rfl, hs, ht⟩
  have HE2 := Aside0.mk hs
  have HF2 := Aside0.mk (HF.out.trans ht)
  clear hs ht
  go_wp2
  go_end0
  exact ⟨rfl, HE2.out, HF2.out⟩
end Go.Proofs.YtoalknneifpehaaDoor.Hand
