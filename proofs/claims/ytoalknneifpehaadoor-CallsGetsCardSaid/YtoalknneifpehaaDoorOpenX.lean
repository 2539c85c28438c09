import Derived.Test.YtoalknneifpehaaDoorWWords
import Derived.Deep.Slices
import Derived.ChangeArms
import Derived.OpenShut
import Derived.Test.YtoalknneifpehaaDoorProg
import Derived.Lib.SmallJoins
import Derived.KernelRfl
namespace Go.Proofs.YtoalknneifpehaaDoor.Hand
open Go.RowKit Go.Proofs.YtoalknneifpehaaDoorW.PrintWords Go.ChangeShapes Go.WideShapes
set_option linter.unusedVariables false
set_option linter.unusedSimpArgs false

/-- Whatever reads as data of type t is, in memory, a value of the kind d of which ok holds. -/
def Opens {α : Type} (P : Program) (t : TypeId) (d : Kd α) (ok : α → Prop) : Prop :=
  ∀ (H : Type) (enc : TypeId × Value → H) (W : World) (base : Nat) (held : Bool) (fuel : Nat) (cs : List Value) (x : DataW H × List MemPlace),
    DataW.trod enc P W base (fun _ => true) held fuel t cs = some x → (∀ n ∈ x.1.weights P t, n ≤ reachBytes) → ∃ v : α, d.K W v cs ∧ ok v

theorem opens_int {P : Program} {t : TypeId} {k : IntKind} (ht : P.underlying t = some (.int k)) : Opens P t (Kd.int k) (fun v => (Lit.int k v).wf = true) := by
  intro H enc W base held fuel cs x h _
  obtain ⟨n, rfl, _, hw⟩ := DataW.trod_int ht h
  exact ⟨n, rfl, hw⟩
theorem opens_bool {P : Program} {t : TypeId} (ht : P.underlying t = some .bool) : Opens P t Kd.bool (fun _ => True) := by
  intro H enc W base held fuel cs x h _
  obtain ⟨b, rfl, _⟩ := DataW.trod_bool ht h
  exact ⟨b, rfl, trivial⟩
theorem opens_string {P : Program} {t : TypeId} (ht : P.underlying t = some .string) : Opens P t Kd.string (fun s => s.size ≤ 140737488351232) := by
  intro H enc W base held fuel cs x h hw
  obtain ⟨s, rfl, rfl, _⟩ := DataW.trod_string ht h
  refine ⟨s, rfl, ?_⟩
  have := hw s.data.toList.length (by simp [DataW.weights])
  rw [Array.length_toList] at this
  exact this
theorem opens_slice {α : Type} {P : Program} {t e : TypeId} {d : Kd α} {ok : α → Prop} {B : Nat} (ht : P.underlying t = some (.slice e)) (hc : P.cellsOf e = d.sz) (hB : P.bytesOf e = B) (hd : Opens P e d ok) [Inhabited α] :
    Opens P t (Kd.slice e d) (fun xs => xs.length ≤ 9223372036854775807 ∧ xs.length * B ≤ 140737488351232 ∧ ∀ v ∈ xs, ok v) := by
  intro H enc W base held fuel cs x h hw
  rcases Go.Deep.open_slice ht h with ⟨rfl, rfl⟩ | ⟨a, len, cap, m, n, D, Pl, rfl, hb, hl, hm, hmm, rfl, hx⟩
  · exact ⟨[], ⟨none, 0, rfl, Nat.le_refl _, Kd.C_nil _ _⟩, by simp, by simp, by simp⟩
  · simp only [if_true] at hmm
    subst hmm
    have hall : ∀ n ∈ DataW.weightsAll P e ((List.range len).map D), n ≤ reachBytes := by
      intro q hq
      refine hw q ?_
      simp only [DataW.weights, ht]
      exact List.mem_cons_of_mem _ (List.mem_append_left _ hq)
    have hmem : ∀ (l : List (DataW H)) (y : DataW H), y ∈ l → ∀ n ∈ y.weights P e, n ∈ DataW.weightsAll P e l := by
      intro l
      induction l with
      | nil => intro y hy; cases hy
      | cons z l ih =>
        intro y hy n hn
        rw [DataW.weightsAll]
        rcases List.mem_cons.1 hy with rfl | hy
        · exact List.mem_append_left _ hn
        · exact List.mem_append_right _ (ih y hy n hn)
    have each : ∀ i, i < len → ∃ v : α, (∃ cs', W.cells? base (a.add (i * P.cellsOf e)) (P.cellsOf e) = some cs' ∧ d.K W v cs') ∧ ok v := by
      intro i hi
      obtain ⟨cs', h1, h2⟩ := hx i (by omega)
      obtain ⟨v, hv, ho⟩ := hd H enc W base held n cs' _ h2 (fun q hq => hall q (hmem _ (D i) (List.mem_map.2 ⟨i, List.mem_range.2 hi, rfl⟩) q hq))
      exact ⟨v, ⟨cs', h1, hv⟩, ho⟩
    obtain ⟨f, hf⟩ := Go.Deep.choose_lt each
    have hlen : ((List.range len).map f).length = len := by simp
    have hz := hw ((((List.range len).map D).length + ((List.range (m - len)).map fun j => D (len + j)).length) * P.bytesOf e) (by simp only [DataW.weights, ht]; exact List.mem_cons_self ..)
    rw [hB] at hz
    simp only [List.length_map, List.length_range] at hz
    refine ⟨(List.range len).map f, ⟨some a, m, by rw [hlen], by rw [hlen]; exact hl, hlen ▸ rfl, ?_, fun _ => ⟨a, rfl, fun j p hj => ?_⟩⟩, ?_, ?_, ?_⟩
    · rw [hlen]; simp only [maxLen] at hm; omega
    · rw [List.getElem?_map] at hj
      obtain ⟨i, hi, rfl⟩ := Option.map_eq_some_iff.1 hj
      have hjl : j < len := by
        have := (List.getElem?_eq_some_iff.1 hi).1
        simpa using this
      obtain rfl : j = i := by simpa [List.getElem?_range hjl] using hi
      obtain ⟨⟨cs', h1, h2⟩, _⟩ := hf j hjl
      obtain ⟨_, h3, h4⟩ := World.cells?_some h1
      rw [hc] at h3 h4 h1
      refine ⟨cs', h3, h2, fun i u hu => ?_⟩
      have hil : i < d.sz := by have := (List.getElem?_eq_some_iff.1 hu).1; omega
      have h5 := h4 i hil
      rw [hu, Go.Deep.add_add] at h5
      exact h5
    · rw [hlen]; simp only [maxLen] at hm; omega
    · rw [hlen]
      have h6 : len * B ≤ (len + (m - len)) * B := Nat.mul_le_mul_right _ (by omega)
      exact Nat.le_trans h6 hz
    · intro v hv
      obtain ⟨i, hi, rfl⟩ := List.mem_map.1 hv
      exact (hf i (List.mem_range.1 hi)).2
open Go.ChangeShapes Go.WideShapes in
/-- Whatever reads as a slice of whole numbers. -/
theorem open_nums {P : Program} {H : Type} {enc : TypeId × Value → H} {W : World} {b0 : Nat} {t te : TypeId} {k : IntKind} {v : Value} {d : DataW H} {p : List MemPlace} {B : Nat} (ht : P.underlying t = some (.slice te)) (he : P.underlying te = some (.int k)) (hc : P.cellsOf te = 1) (hB : P.bytesOf te = B)
    (hv : Value.okWide P W .any b0 t v) (h : DataW.Trod enc P W 0 (fun _ => true) true t v d p) (hw : ∀ n ∈ d.weights P t, n ≤ reachBytes) :
    ∃ (A : Option Addr) (c : Nat) (l : List Int), v = .slice A l.length c ∧ l.length ≤ c ∧ Kd.C (Kd.int k) W A l.length l ∧ (∀ n ∈ l, (Lit.int k n).wf = true) ∧ l.length * B ≤ 140737488351232 := by
  obtain ⟨b1, n1, c1, rfl⟩ := okWide_slice ht hv
  obtain ⟨fuel, hf⟩ := h
  obtain ⟨l, ⟨A, c, hcs, hc', hC⟩, hm, hs, hok⟩ := opens_slice (d := Kd.int k) ht hc hB (opens_int he) H enc W 0 true fuel _ _ hf hw
  have e2 : Value.slice b1 n1 c1 = .slice A l.length c := by simpa [Value.cells] using hcs
  exact ⟨A, c, l, e2, hc', hC, hok, hs⟩

set_option maxRecDepth 100000 in
/-- Whatever reads as somebody who calls. -/
theorem open_cred {H : Type} {enc : TypeId × Value → H} {W : World} {b0 : Nat} {v : Value} {d : DataW H} {p : List MemPlace} (hv : Value.okWide Tryd.prog W .any b0 25 v)
    (h : DataW.Trod enc Tryd.prog W 0 (fun _ => true) true 25 v d p) (hw : ∀ n ∈ d.weights Tryd.prog 25, n ≤ reachBytes) :
    ∃ (u g : Int) (A : Option Addr) (c : Nat) (gs : List Int), v = .agg #[.int .u32 u, .int .u32 g, .slice A gs.length c] ∧ (Lit.int .u32 u).wf = true ∧ (Lit.int .u32 g).wf = true ∧ gs.length ≤ c ∧ Kd.C (Kd.int .u32) W A gs.length gs ∧ (∀ n ∈ gs, (Lit.int .u32 n).wf = true) ∧ gs.length ≤ 140737488351232 := by
  obtain ⟨v0, v1, v2, y0, y1, y2, n, rfl, rfl, rfl, h0, h1, h2⟩ := Go.Joins.open_agg3 Tryd.underlying25 (by kernel_rfl) (by kernel_rfl) hv h
  obtain ⟨u, hu, hu1⟩ := opens_int (P := Tryd.prog) (t := 22) Tryd.underlying22 H enc W 0 true n _ _ h0 (fun q hq => hw q (by
    simp only [DataW.weights, Tryd.underlying25]
    simp only [List.map_toArray, List.map_cons, List.map_nil, DataW.weightsEach, List.mem_append]
    exact .inl hq))
  obtain ⟨g, hg, hg1⟩ := opens_int (P := Tryd.prog) (t := 22) Tryd.underlying22 H enc W 0 true n _ _ h1 (fun q hq => hw q (by
    simp only [DataW.weights, Tryd.underlying25]
    simp only [List.map_toArray, List.map_cons, List.map_nil, DataW.weightsEach, List.mem_append]
    exact .inr (.inl hq)))
  obtain ⟨gs, ⟨A, c, hcs, hc, hC⟩, hm, hs, hok⟩ := opens_slice (P := Tryd.prog) (t := 23) Tryd.underlying23 (d := Kd.int .u32) (by kernel_rfl) rfl (opens_int (P := Tryd.prog) (t := 22) Tryd.underlying22) H enc W 0 true n _ _ h2 (fun q hq => hw q (by
    simp only [DataW.weights, Tryd.underlying25]
    simp only [List.map_toArray, List.map_cons, List.map_nil, DataW.weightsEach, List.mem_append]
    exact .inr (.inr (.inl hq))))
  have e0 : v0 = .int .u32 u := by have := (show [v0] = [Value.int .u32 u] from hu); simpa using this
  have e1 : v1 = .int .u32 g := by have := (show [v1] = [Value.int .u32 g] from hg); simpa using this
  have e2 : v2 = .slice A gs.length c := by simpa using hcs
  subst e0 e1 e2
  rw [show Tryd.prog.bytesOf 22 = 4 by kernel_rfl] at hs
  exact ⟨u, g, A, c, gs, rfl, hu1, hg1, hc, hC, hok, by omega⟩

/-- What is known of a call that came as an argument. -/
structure CallIn (W : World) (x p v o f : Int) (m : ByteArray) (s u g : Int) (A : Option Addr) (c : Nat) (l : List Int) (B : Option Addr) (b : Nat) (y : List Int) : Prop where
  wx : (Lit.int .u32 x).wf = true
  wp : (Lit.int .u32 p).wf = true
  wv : (Lit.int .u32 v).wf = true
  wo : (Lit.int .u32 o).wf = true
  wf : (Lit.int .u32 f).wf = true
  wm : m.size ≤ 140737488351232
  ws : (Lit.int .u32 s).wf = true
  wu : (Lit.int .u32 u).wf = true
  wg : (Lit.int .u32 g).wf = true
  cA : l.length ≤ c
  hA : Kd.C (Kd.int .u32) W A l.length l
  okA : ∀ n ∈ l, (Lit.int .u32 n).wf = true
  szA : l.length * 4 ≤ 140737488351232
  cB : y.length ≤ b
  hB : Kd.C (Kd.int .u8) W B y.length y
  okB : ∀ n ∈ y, (Lit.int .u8 n).wf = true
  szB : y.length * 1 ≤ 140737488351232
set_option maxRecDepth 100000 in
set_option maxHeartbeats 4000000 in
/-- Whatever reads as a call. -/
theorem open_call {H : Type} {enc : TypeId × Value → H} {W : World} {b0 : Nat} {vv : Value} {d : DataW H} {pp : List MemPlace} (hv : Value.okWide Tryd.prog W .any b0 28 vv)
    (h : DataW.Trod enc Tryd.prog W 0 (fun _ => true) true 28 vv d pp) (hw : ∀ n ∈ d.weights Tryd.prog 28, n ≤ reachBytes) :
    ∃ (x p v o f : Int) (m : ByteArray) (s u g : Int) (A : Option Addr) (c : Nat) (l : List Int) (B : Option Addr) (b : Nat) (y : List Int),
      vv = .agg #[.int .u32 x, .int .u32 p, .int .u32 v, .int .u32 o, .int .u32 f, .string m, .int .u32 s, .int .u32 u, .int .u32 g, .slice A l.length c, .slice B y.length b] ∧ CallIn W x p v o f m s u g A c l B b y := by
  obtain ⟨cs, rfl, hsz⟩ := okWide_struct Tryd.underlying28 hv
  rw [show Tryd.prog.cellsOf 28 = 11 by kernel_rfl] at hsz
  have k32 : Tryd.prog.cellsOf 22 = 1 := by kernel_rfl
  have ks : Tryd.prog.cellsOf 9 = 1 := by kernel_rfl
  have kC : Tryd.prog.cellsOf 25 = 3 := by kernel_rfl
  have kB : Tryd.prog.cellsOf 26 = 1 := by kernel_rfl
  have kU : Tryd.prog.cellsOf 23 = 1 := by kernel_rfl
  obtain ⟨cl⟩ := cs
  obtain ⟨v0, v1, v2, v3, v4, v5, v6, v7, v8, v9, v10, rfl⟩ : ∃ v0 v1 v2 v3 v4 v5 v6 v7 v8 v9 v10 : Value, cl = [v0, v1, v2, v3, v4, v5, v6, v7, v8, v9, v10] := by
    match cl, hsz with
    | [v0, v1, v2, v3, v4, v5, v6, v7, v8, v9, v10], _ => exact ⟨v0, v1, v2, v3, v4, v5, v6, v7, v8, v9, v10, rfl⟩
  clear hsz hv
  obtain ⟨fuel, hf⟩ := h
  obtain ⟨xs, n, _, hx, _, hlen, hF⟩ := DataW.trod_struct Tryd.underlying28 hf
  obtain ⟨y0, y1, y2, y3, y4, y5, y6, y7, y8, rfl⟩ : ∃ y0 y1 y2 y3 y4 y5 y6 y7 y8 : DataW H × List MemPlace, xs = [y0, y1, y2, y3, y4, y5, y6, y7, y8] := by
    match xs, hlen with
    | [y0, y1, y2, y3, y4, y5, y6, y7, y8], _ => exact ⟨y0, y1, y2, y3, y4, y5, y6, y7, y8, rfl⟩
  have hd : d = .agg [y0.1, y1.1, y2.1, y3.1, y4.1, y5.1, y6.1, y7.1, y8.1] := by simp at hx; exact hx.1
  subst hd
  clear hx hlen hf
  have h0 : DataW.trod enc Tryd.prog W 0 (fun _ => true) true n 22 [v0] = some y0 := by
    have := hF 0 _ rfl
    simpa [Value.cells, k32, ks, kC, kB] using this
  have w0 : ∀ q ∈ y0.1.weights Tryd.prog 22, q ≤ reachBytes := fun q hq => hw q (by
    simp only [DataW.weights, Tryd.underlying28]
    simp only [List.map_toArray, List.map_cons, List.map_nil, DataW.weightsEach, List.mem_append]
    exact (.inl hq))
  have h1 : DataW.trod enc Tryd.prog W 0 (fun _ => true) true n 22 [v1] = some y1 := by
    have := hF 1 _ rfl
    simpa [Value.cells, k32, ks, kC, kB] using this
  have w1 : ∀ q ∈ y1.1.weights Tryd.prog 22, q ≤ reachBytes := fun q hq => hw q (by
    simp only [DataW.weights, Tryd.underlying28]
    simp only [List.map_toArray, List.map_cons, List.map_nil, DataW.weightsEach, List.mem_append]
    exact (.inr (.inl hq)))
  have h2 : DataW.trod enc Tryd.prog W 0 (fun _ => true) true n 22 [v2] = some y2 := by
    have := hF 2 _ rfl
    simpa [Value.cells, k32, ks, kC, kB] using this
  have w2 : ∀ q ∈ y2.1.weights Tryd.prog 22, q ≤ reachBytes := fun q hq => hw q (by
    simp only [DataW.weights, Tryd.underlying28]
    simp only [List.map_toArray, List.map_cons, List.map_nil, DataW.weightsEach, List.mem_append]
    exact (.inr (.inr (.inl hq))))
  have h3 : DataW.trod enc Tryd.prog W 0 (fun _ => true) true n 22 [v3] = some y3 := by
    have := hF 3 _ rfl
    simpa [Value.cells, k32, ks, kC, kB] using this
  have w3 : ∀ q ∈ y3.1.weights Tryd.prog 22, q ≤ reachBytes := fun q hq => hw q (by
    simp only [DataW.weights, Tryd.underlying28]
    simp only [List.map_toArray, List.map_cons, List.map_nil, DataW.weightsEach, List.mem_append]
    exact (.inr (.inr (.inr (.inl hq)))))
  have h4 : DataW.trod enc Tryd.prog W 0 (fun _ => true) true n 22 [v4] = some y4 := by
    have := hF 4 _ rfl
    simpa [Value.cells, k32, ks, kC, kB] using this
  have w4 : ∀ q ∈ y4.1.weights Tryd.prog 22, q ≤ reachBytes := fun q hq => hw q (by
    simp only [DataW.weights, Tryd.underlying28]
    simp only [List.map_toArray, List.map_cons, List.map_nil, DataW.weightsEach, List.mem_append]
    exact (.inr (.inr (.inr (.inr (.inl hq))))))
  have h5 : DataW.trod enc Tryd.prog W 0 (fun _ => true) true n 9 [v5] = some y5 := by
    have := hF 5 _ rfl
    simpa [Value.cells, k32, ks, kC, kB] using this
  have w5 : ∀ q ∈ y5.1.weights Tryd.prog 9, q ≤ reachBytes := fun q hq => hw q (by
    simp only [DataW.weights, Tryd.underlying28]
    simp only [List.map_toArray, List.map_cons, List.map_nil, DataW.weightsEach, List.mem_append]
    exact (.inr (.inr (.inr (.inr (.inr (.inl hq)))))))
  have h6 : DataW.trod enc Tryd.prog W 0 (fun _ => true) true n 22 [v6] = some y6 := by
    have := hF 6 _ rfl
    simpa [Value.cells, k32, ks, kC, kB] using this
  have w6 : ∀ q ∈ y6.1.weights Tryd.prog 22, q ≤ reachBytes := fun q hq => hw q (by
    simp only [DataW.weights, Tryd.underlying28]
    simp only [List.map_toArray, List.map_cons, List.map_nil, DataW.weightsEach, List.mem_append]
    exact (.inr (.inr (.inr (.inr (.inr (.inr (.inl hq))))))))
  have h7 : DataW.trod enc Tryd.prog W 0 (fun _ => true) true n 25 [v7, v8, v9] = some y7 := by
    have := hF 7 _ rfl
    simpa [Value.cells, k32, ks, kC, kB] using this
  have w7 : ∀ q ∈ y7.1.weights Tryd.prog 25, q ≤ reachBytes := fun q hq => hw q (by
    simp only [DataW.weights, Tryd.underlying28]
    simp only [List.map_toArray, List.map_cons, List.map_nil, DataW.weightsEach, List.mem_append]
    exact (.inr (.inr (.inr (.inr (.inr (.inr (.inr (.inl hq)))))))))
  have h8 : DataW.trod enc Tryd.prog W 0 (fun _ => true) true n 26 [v10] = some y8 := by
    have := hF 8 _ rfl
    simpa [Value.cells, k32, ks, kC, kB] using this
  have w8 : ∀ q ∈ y8.1.weights Tryd.prog 26, q ≤ reachBytes := fun q hq => hw q (by
    simp only [DataW.weights, Tryd.underlying28]
    simp only [List.map_toArray, List.map_cons, List.map_nil, DataW.weightsEach, List.mem_append]
    exact (.inr (.inr (.inr (.inr (.inr (.inr (.inr (.inr (.inl hq))))))))))
  clear hF hw
  obtain ⟨zs, n7, _, hx7, _, hlen7, hF7⟩ := DataW.trod_struct Tryd.underlying25 h7
  obtain ⟨z0, z1, z2, rfl⟩ : ∃ z0 z1 z2 : DataW H × List MemPlace, zs = [z0, z1, z2] := by
    match zs, hlen7 with
    | [z0, z1, z2], _ => exact ⟨z0, z1, z2, rfl⟩
  have hy7 : y7.1 = .agg [z0.1, z1.1, z2.1] := by rw [hx7]; rfl
  rw [hy7] at w7
  have g0 : DataW.trod enc Tryd.prog W 0 (fun _ => true) true n7 22 [v7] = some z0 := by
    have := hF7 0 _ rfl
    simpa [Value.cells, k32, kU] using this
  have q0 : ∀ q ∈ z0.1.weights Tryd.prog 22, q ≤ reachBytes := fun q hq => w7 q (by
    simp only [DataW.weights, Tryd.underlying25]
    simp only [List.map_toArray, List.map_cons, List.map_nil, DataW.weightsEach, List.mem_append]
    exact (.inl hq))
  have g1 : DataW.trod enc Tryd.prog W 0 (fun _ => true) true n7 22 [v8] = some z1 := by
    have := hF7 1 _ rfl
    simpa [Value.cells, k32, kU] using this
  have q1 : ∀ q ∈ z1.1.weights Tryd.prog 22, q ≤ reachBytes := fun q hq => w7 q (by
    simp only [DataW.weights, Tryd.underlying25]
    simp only [List.map_toArray, List.map_cons, List.map_nil, DataW.weightsEach, List.mem_append]
    exact (.inr (.inl hq)))
  have g2 : DataW.trod enc Tryd.prog W 0 (fun _ => true) true n7 23 [v9] = some z2 := by
    have := hF7 2 _ rfl
    simpa [Value.cells, k32, kU] using this
  have q2 : ∀ q ∈ z2.1.weights Tryd.prog 23, q ≤ reachBytes := fun q hq => w7 q (by
    simp only [DataW.weights, Tryd.underlying25]
    simp only [List.map_toArray, List.map_cons, List.map_nil, DataW.weightsEach, List.mem_append]
    exact (.inr (.inr (.inl hq))))
  obtain ⟨x, ex, rx⟩ := opens_int (P := Tryd.prog) (t := 22) Tryd.underlying22 H enc W 0 true _ _ _ h0 w0
  obtain rfl : v0 = .int .u32 x := by have := (show [v0] = [Value.int .u32 x] from ex); simpa using this
  obtain ⟨p, ep, rp⟩ := opens_int (P := Tryd.prog) (t := 22) Tryd.underlying22 H enc W 0 true _ _ _ h1 w1
  obtain rfl : v1 = .int .u32 p := by have := (show [v1] = [Value.int .u32 p] from ep); simpa using this
  obtain ⟨v, ev, rv⟩ := opens_int (P := Tryd.prog) (t := 22) Tryd.underlying22 H enc W 0 true _ _ _ h2 w2
  obtain rfl : v2 = .int .u32 v := by have := (show [v2] = [Value.int .u32 v] from ev); simpa using this
  obtain ⟨o, eo, ro⟩ := opens_int (P := Tryd.prog) (t := 22) Tryd.underlying22 H enc W 0 true _ _ _ h3 w3
  obtain rfl : v3 = .int .u32 o := by have := (show [v3] = [Value.int .u32 o] from eo); simpa using this
  obtain ⟨f, ef, rf⟩ := opens_int (P := Tryd.prog) (t := 22) Tryd.underlying22 H enc W 0 true _ _ _ h4 w4
  obtain rfl : v4 = .int .u32 f := by have := (show [v4] = [Value.int .u32 f] from ef); simpa using this
  obtain ⟨m, em, rm⟩ := opens_string (P := Tryd.prog) (t := 9) Tryd.underlying9 H enc W 0 true _ _ _ h5 w5
  obtain rfl : v5 = .string m := by have := (show [v5] = [Value.string m] from em); simpa using this
  obtain ⟨s, es, rs⟩ := opens_int (P := Tryd.prog) (t := 22) Tryd.underlying22 H enc W 0 true _ _ _ h6 w6
  obtain rfl : v6 = .int .u32 s := by have := (show [v6] = [Value.int .u32 s] from es); simpa using this
  obtain ⟨u, eu, ru⟩ := opens_int (P := Tryd.prog) (t := 22) Tryd.underlying22 H enc W 0 true _ _ _ g0 q0
  obtain rfl : v7 = .int .u32 u := by have := (show [v7] = [Value.int .u32 u] from eu); simpa using this
  obtain ⟨g, eg, rg⟩ := opens_int (P := Tryd.prog) (t := 22) Tryd.underlying22 H enc W 0 true _ _ _ g1 q1
  obtain rfl : v8 = .int .u32 g := by have := (show [v8] = [Value.int .u32 g] from eg); simpa using this
  obtain ⟨l, ⟨A, c, hcs, hc, hC⟩, _, hs, hok⟩ := opens_slice (P := Tryd.prog) (t := 23) Tryd.underlying23 (d := Kd.int .u32) (by kernel_rfl) rfl (opens_int (P := Tryd.prog) (t := 22) Tryd.underlying22) H enc W 0 true _ _ _ g2 q2
  obtain rfl : v9 = .slice A l.length c := by simpa using hcs
  obtain ⟨y, ⟨B, b, hcs8, hc8, hC8⟩, _, hs8, hok8⟩ := opens_slice (P := Tryd.prog) (t := 26) Tryd.underlying26 (d := Kd.int .u8) (by kernel_rfl) rfl (opens_int (P := Tryd.prog) (t := 5) Tryd.underlying5) H enc W 0 true _ _ _ h8 w8
  obtain rfl : v10 = .slice B y.length b := by simpa using hcs8
  rw [show Tryd.prog.bytesOf 22 = 4 by kernel_rfl] at hs
  rw [show Tryd.prog.bytesOf 5 = 1 by kernel_rfl] at hs8
  exact ⟨x, p, v, o, f, m, s, u, g, A, c, l, B, b, y, rfl, rx, rp, rv, ro, rf, rm, rs, ru, rg, hc, hC, hok, hs, hc8, hC8, hok8, hs8⟩
end Go.Proofs.YtoalknneifpehaaDoor.Hand
