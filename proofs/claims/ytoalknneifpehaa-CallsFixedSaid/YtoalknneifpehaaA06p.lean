import Derived.Test.YtoalknneifpehaaX06
import Derived.Lib.SlBytesConst
namespace Go.Proofs.Ytoalknneifpehaa.Hand
open Go.RowKit Go.Proofs.Ytoalknneifpehaa.GB Go.Proofs.Ytoalknneifpehaa.GC Go.Proofs.YtoalknneifpehaaW.PrintWords Go.Proofs.YtoalknneifpehaaW.PrintLast Go.Proofs.YtoalknneifpehaaW.PrintMore
set_option linter.unusedVariables false
set_option linter.unusedSimpArgs false

theorem lit_readsC (k : IntKind) (t : TypeId) (W : World) (xs : List Int) (cs : Array Value) (fr : Nat × Nat) (hcs : cs = (nums k xs).toArray) (hl : xs.length ≤ 9223372036854775807) :
    Kd.C (Kd.int k) (W.alloc (.cells cs t fr)) (some ⟨W.heap.size, 0, none⟩) xs.length xs := by
  subst hcs
  refine Kd.C_of_reads (d := (0 : Int)) (h1 := fun _ => rfl) ⟨rfl, hl, fun _ => ⟨_, rfl, fun j hj => ?_⟩⟩
  have h := cell_of_row (W.alloc (.cells (nums k xs).toArray t fr)) W.heap.size j (nums k xs).toArray t fr (heap_alloc_new W _)
  rw [add_plain, h]
  simp [nums, List.getD_eq_getElem?_getD, List.getElem?_eq_getElem hj]
/-! ### The chapter's call, and what becomes of it -/
def smallL : List Int := [0, 0, 0, 1, 0, 0, 0, 0, 0, 0, 0, 2, 0, 1, 134, 163, 0, 0, 0, 3, 0, 0, 0, 0, 0, 0, 0, 0, 0, 0, 0, 0, 0, 0, 0, 0, 0, 0, 0, 0]
def headL : List Int := [0, 0, 0, 1, 0, 0, 0, 0, 0, 0, 0, 2, 0, 1, 134, 163, 0, 0, 0, 3]
/-- An append whose run is known. -/
theorem append_event {P : Program} {ops : Array Oper} {rest : List Oper} {o : Oper} {a : Act} {Q : Exit → Act → World → Prop} {W w1 : World} (hgd : o.guard = none) (s x : Operand) (T : Array TypeId) (vs vx v1 : Value)
    (ho : o.op = .call { callee := .builtin .append, args := #[s, x], argTypes := T }) (hs : a.eval s = vs) (hx : a.eval x = vx) (hrun : (Builtin.append_ T o.type #[vs, vx]).run P W = .ok v1 w1)
    (h : wpList P ops Q rest (a.put o.dst v1) w1) : wpList P ops Q (o :: rest) a W := by
  refine wpList_plain hgd fun K hK => ?_
  unfold Oper.wp execOp
  simp only [ho, resolve, invoke, builtin, Sem.run_bind, Sem.run_pure, Result.andThen_ok, List.map_toArray, List.map_cons, List.map_nil, hs, hx, hrun]
  exact hK _ _ h
/-- Zeros behind a row that is only read, where there is no room: a new row. -/
theorem zeros_grow {P : Program} (w : World) (t ti ty e : TypeId) (i : TypeInfo) (z : Value) (ht : P.underlying t = some (.slice e)) {k : IntKind} (hti : P.underlying ti = some (.int k)) (hi : P.info? e = some i) (hz : i.zero = some z)
    (hsize : i.size = 1) (hby : i.bytes = 1) (hzs : z.cells.size = 1) (b n cap m : Nat) (xs : List Value) (hx : xs.length = n) (hxs : ∀ j u, xs[j]? = some u → w.cell? ((⟨b, 0, none⟩ : Addr).add j) = some u)
    (kx : IntKind) (hm : m ≠ 0) (hcap : cap < n + m) (hbytes : n + m ≤ 140737488355328) :
    ∃ v' w', (Builtin.append_ #[t, ti] ty #[.slice (some ⟨b, 0, none⟩) n cap, .int kx m]).run P w = .ok v' w' ∧ w'.ownsRow w.heap.size e 1 v' (n + m) (xs ++ (Builtin.zeroCells z.cells m).toList) ∧ w.grownBy w' none := by
  have h63 : n + m ≤ maxLen := by simp only [maxLen]; omega
  have hw : IntKind.i64.wrap (m : Int) = m := by rw [IntKind.wrap_i64]; omega
  have hneg : ¬ ((m : Int) < 0) := by omega
  have hbig : ¬ (281474976710656 < (m : Int)) := by omega
  obtain ⟨news, hnews⟩ : ∃ news, news = (Builtin.zeroCells z.cells m).toList := ⟨_, rfl⟩
  rw [← hnews]
  have hl : news.length = m := by rw [hnews, Array.length_toList, size_zeroCells, hzs, Nat.mul_one]
  have hna : Builtin.zeroCells z.cells m = news.toArray := by rw [hnews]
  have hlen : (xs ++ news).length = (n + m) * 1 := by rw [List.length_append, hx, hl, Nat.mul_one]
  have hge := grownCap_ge w (n + m) cap e
  have hcm : grownCap w (n + m) cap e ≤ maxLen := grownCap_le_maxLen w (n + m) cap e h63
  have hn : ¬ (n + m ≤ cap) := by omega
  have h63' : ¬ (9223372036854775807 < ((n : Int) + (m : Int))) := by omega
  have hfit := growslice_fits (bytes := 1) hcap (by omega)
  have h48' : ¬ (281474976710656 < Builtin.nextslicecap (n + m) cap * 1) := by omega
  have hfo := run_firstCells_some (P := P) w.drew 1 n ⟨b, 0, none⟩ n cap xs (by rw [hx, Nat.mul_one]) (by simpa using hxs)
  refine ⟨.slice (some ⟨w.heap.size, 0, none⟩) (n + m) (grownCap w (n + m) cap e), w.drew.alloc (.cells (xs.toArray ++ news.toArray ++ Builtin.zeroCells z.cells (grownCap w (n + m) cap e - (n + m))) e), ?_, ⟨hlen, .inr ⟨w.heap.size, _, _, rfl, Nat.le_refl _, heap_alloc_new w.drew _, hge, hcm, ?_, ?_⟩⟩, ⟨rfl, rfl, rfl, by simp, fun k hk _ => heap_alloc_old w.drew _ hk⟩⟩
  · simp only [Nat.mul_one] at h48'
    simp [Builtin.append_, run_underlying ht, run_underlying hti, sizeOf, typeInfo, zeroValue, hi, hz, asInt, asIntOf, hw, hneg, hbig, hn, h63', h48', Question.forced, hfo, newRow, grownCap, hm, hna, hsize, hby]
    all_goals (first | done | (congr 2; apply Array.ext'; simp [List.append_assoc]))
  · simp only [Array.size_append, List.size_toArray, size_zeroCells, hzs, hx, hl, Nat.mul_one]
    omega
  · simp only [Array.toList_append, List.append_assoc]
    rw [← List.append_assoc, ← hlen]
    exact List.take_left
set_option maxHeartbeats 1000000 in
theorem small_calls (w : World) : Calls Try.prog 18 #[] w fun e w' => ∃ v, e = .returned v ∧ OB w' w.heap.size v smallL ∧ Below w.heap.size w w' := by
  have kc := fun (w : World) (C : Array Value) (n c : Nat) => Lib.run_convert_bytes_const (P := Try.prog) w 26 5 C n c Try.underlying26 Try.underlying5
  obtain ⟨i0, hi, hzz⟩ := Option.map_eq_some_iff.1 infoB
  simp only [Prod.mk.injEq] at hzz
  obtain ⟨hz0, hz1, hz2⟩ := hzz
  obtain ⟨v1, w1, hrun, hown, hgb⟩ := zeros_grow (P := Try.prog) (w.alloc (.cells (nums .u8 headL).toArray 5 (20, 21))) 26 3 26 5 i0 (.int .u8 0) Try.underlying26 Try.underlying3 hi hz0 hz1 hz2 rfl w.heap.size 20 20 20 (nums .u8 headL) rfl (fun j u hu => by
    have h := cell_of_row (w.alloc (.cells (nums .u8 headL).toArray 5 (20, 21))) w.heap.size j (nums .u8 headL).toArray 5 (20, 21) (heap_alloc_new w _)
    rw [add_plain, h]
    simpa using hu) .i64 (by decide) (by decide) (by decide)
  rw [show nums .u8 headL ++ (Builtin.zeroCells (Value.int .u8 0).cells 20).toList = smallL.map (Value.int .u8) by kernel_rfl] at hown
  have HO := Aside0.mk (own_weaken (base' := w.heap.size) hown (by simp))
  have HB := Aside0.mk (show Below w.heap.size w w1 from Below.grown (B := w.heap.size) ((Below.refl w.heap.size w).alloc (Nat.le_refl _) _) hgb (by simp) (by intro b h; cases h))
  rw [show (nums .u8 headL).toArray = #[.int .u8 0, .int .u8 0, .int .u8 0, .int .u8 1, .int .u8 0, .int .u8 0, .int .u8 0, .int .u8 0, .int .u8 0, .int .u8 0, .int .u8 0, .int .u8 2, .int .u8 0, .int .u8 1, .int .u8 134, .int .u8 163, .int .u8 0, .int .u8 0, .int .u8 0, .int .u8 3] from rfl, show (((20 : Nat) : Int)) = 20 from rfl] at hrun
  have HRUN := Aside0.mk hrun
  clear hown hgb hi hz0 hz1 hz2 hrun
  go_enter Try.func18, Try.ntmps18
  go_wp2_with (at_builtin; refine append_event rfl (.tmp 2) (.const (.int .i64 20)) #[26, 3] _ _ v1 rfl rfl rfl HRUN.out ?_)
  go_ret
  exact ⟨_, rfl, OB_of (xs := smallL) HO.out, HB.out⟩
theorem small_put : calls_Put.f 1 100003 3 0 0 ByteArray.empty 0 0 0 [] [] = some (smallL, 0) := by kernel_rfl
theorem small_get : calls_Get.f (smallL ++ [97, 98]) = some (1, 100003, 3, 0, 0, ByteArray.empty, 0, 0, 0, [], [97, 98], 0) := by kernel_rfl
theorem small_cut : calls_Get.f (smallL.take 39) = some (0, 0, 0, 0, 0, ByteArray.empty, 0, 0, 0, [], [], 4) := by kernel_rfl
theorem small_bad : calls_Get.f (smallL.set 7 1) = some (0, 0, 0, 0, 0, ByteArray.empty, 0, 0, 0, [], [], 5) := by kernel_rfl
theorem flavor2 : calls_Put.f 0 0 0 0 2 ByteArray.empty 0 0 0 [] [] = some ([], 1) := by kernel_rfl
theorem head0 : callB 0 0 0 0 0 ByteArray.empty 0 0 0 [] = [0, 0, 0, 0, 0, 0, 0, 0, 0, 0, 0, 2, 0, 0, 0, 0, 0, 0, 0, 0, 0, 0, 0, 0, 0, 0, 0, 0, 0, 0, 0, 0, 0, 0, 0, 0, 0, 0, 0, 0] := by kernel_rfl
theorem long_put : calls_Put.f 0 0 0 0 0 ByteArray.empty 0 0 0 [] (List.replicate 65536 0) = some ([], 3) := by
  have hg : (R32 0 ∧ R32 0 ∧ R32 0 ∧ (0 : Int) ≤ 0) ∧ ByteArray.empty.size ≤ 140737488351232 ∧ ([] : List Int).length ≤ 140737488351232 ∧ (List.replicate 65536 (0 : Int)).length ≤ 140737488351232 :=
    ⟨⟨⟨by omega, by omega⟩, ⟨by omega, by omega⟩, ⟨by omega, by omega⟩, by omega⟩, by decide, by simp, by rw [List.length_replicate]; omega⟩
  have h1 : ¬ ((1 : Int) < 0 ∨ ((0 : Int) = 0 ∧ toldB ByteArray.empty 0 0 0 [] = true)) := by
    rintro (h | ⟨_, h⟩)
    · omega
    · exact absurd h (by decide)
  have h2 : ¬ ((0 : Int) = 1 ∧ (255 < ByteArray.empty.size ∨ 16 < ([] : List Int).length)) := by rintro ⟨h, _⟩; omega
  have h3 : 65536 < (callB 0 0 0 0 0 ByteArray.empty 0 0 0 [] ++ List.replicate 65536 0).length := by rw [head0, List.length_append, List.length_replicate]; simp
  unfold calls_Put.f
  rw [if_pos hg, if_neg h1, if_neg h2, if_pos h3]
theorem small_same : wharfingerlaw01_SameBytes.f 41 smallL smallL = some true := by kernel_rfl
theorem body_str : strOfNums [97, 98] = ⟨#[97, 98]⟩ := by kernel_rfl
end Go.Proofs.Ytoalknneifpehaa.Hand
