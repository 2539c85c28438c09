import Derived.Test.YtoalknneifpehaaDoorKB
import Derived.Deep.Onto
import Derived.Deep.QuietTactic
import Derived.BigQuiet
import Derived.Test.YtoalknneifpehaaDoorQ02
import Derived.Test.YtoalknneifpehaaDoorQ03
namespace Go.Proofs.YtoalknneifpehaaDoor.Hand
open Go.RowKit Go.Proofs.YtoalknneifpehaaDoorW.PrintWords Go.Proofs.YtoalknneifpehaaDoorW.PrintLast Go.Proofs.YtoalknneifpehaaDoorW.PrintMore Go.Proofs.YtoalknneifpehaaDoor.GB
set_option linter.unusedVariables false
set_option linter.unusedSimpArgs false

theorem markNumber_calls (n : Int) (w : World) (h0 : 0 ≤ n) (h1 : n ≤ 100) :
    Calls Tryd.prog 70 #[.int .i64 n] w fun e w' => e = .returned (.int .u32 (1000 + n)) ∧ w = w' := by
  have c1 : n % 250 = n := by omega
  have C1 := Aside0.mk c1
  go_enter Tryd.func70, Tryd.ntmps70
  go_wp2
  go_ret
  exact ⟨by first | rfl | (have := C1.out; congr 2; omega), rfl⟩
theorem isNumber_calls (x n : Int) (w : World) (h0 : 0 ≤ n) (h1 : n ≤ 100) (hx : x = 1000 + n) :
    Calls Tryd.prog 77 #[.int .u32 x, .int .i64 n] w fun e w' => e = .returned (.bool true) ∧ w = w' := by
  have c1 : n % 250 = n := by omega
  have C2 : (x == 1000 + n) = true := by simp [hx]
  clear hx
  go_enter Tryd.func77, Tryd.ntmps77
  go_wp2
  go_ret
  exact ⟨by first | rfl | simp_all, rfl⟩
theorem infoHNumber : (Tryd.prog.info? 84).map (fun i => (i.zero, i.size, i.bytes)) = some (some (.agg #[.slice none 0 0, .slice none 0 0, .int .i64 0]), 3, 56) := by kernel_rfl

set_option maxHeartbeats 4000000 in
set_option maxRecDepth 100000 in
theorem keepNumber_calls (B K : Nat) (nn : Int) (vB vN : Value) (m : Nat) (es : List Ent) (la : Option Addr) (ln lc : Nat) (w : World) (hk : BkBlk w K nn vB vN) (hr : w.ownsRow B 84 3 vN m (eCells (es.take m))) (hm : m < es.length)
    (hl : es[m].l = .slice la ln lc) (hlg : es[m].lg = .slice none 0 0) (hn : es[m].n = nn + 1) (h0 : 0 ≤ nn) (h1 : nn ≤ 100) (hm1 : m ≤ 100) (hB : B ≤ K) :
    Calls Tryd.prog 101 #[.pointer (some ⟨K, 0, none⟩), .slice la ln lc] w fun e w' => e = .returned (.tuple #[]) ∧ ∃ vX, BkBlk w' K (nn + 1) vB vX ∧ w'.ownsRow B 84 3 vX (m + 1) (eCells (es.take (m + 1))) ∧ TK (fun t => t = 44 ∨ t = 84) w w' ∧ Below B w w' := by
  have HK := Aside0.mk hk
  have HK1 := Aside0.mk (hk.set0 (nn + 1))
  have HR := Aside0.mk hr
  have c0 := hk.c0
  have c1 := hk.c2
  have f0 := hk.fz 0
  have f1 := hk.fz 2
  have HE := Aside0.mk (show eCells (es.take (m + 1)) = eCells (es.take m) ++ [.slice la ln lc, .slice none 0 0, .int .i64 (nn + 1)] by
    rw [List.take_succ_eq_append_getElem hm, eCells_append]
    congr 1
    show es[m].cells ++ [] = _
    rw [List.append_nil]
    unfold Ent.cells
    rw [hl, hlg, hn])
  obtain ⟨w1, hw1⟩ : ∃ w1, w.setCell ⟨K, 0, none⟩ (.int .i64 (nn + 1)) = w1 := ⟨_, rfl⟩
  have hne : vN.ownBlock = none ∨ vN.ownBlock ≠ some K := by
    rcases hr.2 with ⟨h, _⟩ | ⟨g, cap, cur, h, _, hg, _⟩
    · rw [h]; exact .inl rfl
    · refine .inr (fun e => ?_)
      rw [h] at e
      have : g = K := by simpa [Value.ownBlock] using e
      subst this
      rw [show w.heap[g]? = _ from hk] at hg
      injection hg with hg; injection hg with _ h2 _
      exact absurd h2 (by decide)
  have hg1 : w.grownBy w1 (some K) := hw1 ▸ grownBy_setCell' w K _
  have HR1 := Aside0.mk (own_other hr hg1 hne)
  have HB1 := Aside0.mk (show Below B w w1 from hw1 ▸ (Below.refl B w).setCell (p := ⟨K, 0, none⟩) hB _)
  have HT1 := Aside0.mk (show TK (fun t => t = 44 ∨ t = 84) w w1 from hw1 ▸ TK.setCell hk (.inl rfl))
  have HW := Aside0.mk hw1
  have HK2 : Aside0 (BkBlk w1 K (nn + 1) vB vN) := ⟨hw1 ▸ HK1.out⟩
  have hkl := hk.lt
  have hsz : w1.heap.size = w.heap.size := by rw [← hw1]; simp
  have HSZ := Aside0.mk hsz
  clear hk hr hl hlg hn hw1 hne hg1 hsz
  go_enter Tryd.func101, Tryd.ntmps101
  go_wp2_with fail
  rw [HW.out]
  have d0 := HK2.out.c0
  have d1 := HK2.out.c2
  have e0 := HK2.out.fz 0
  have e1 := HK2.out.fz 2
  have hk1 : K < w1.heap.size := HK2.out.lt
  obtain ⟨ti, hi, hz0, hz1, hz2⟩ : ∃ i, Tryd.prog.info? 84 = some i ∧ i.zero = some (.agg #[.slice none 0 0, .slice none 0 0, .int .i64 0]) ∧ i.size = 3 ∧ i.bytes = 56 := by
    obtain ⟨i, hi, h2⟩ := Option.map_eq_some_iff.1 infoHNumber
    simp only [Prod.mk.injEq] at h2
    exact ⟨i, hi, h2⟩
  have HI := Aside0.mk (And.intro hi (And.intro hz0 (And.intro hz1 hz2)))
  have HONE := Aside0.mk (show ∀ u ∈ [Value.slice la ln lc, .slice none 0 0, Value.int .i64 (nn + 1)], u.oneCell' = true by
    intro u hu
    rcases List.mem_cons.1 hu with rfl | hu
    · rfl
    · rcases List.mem_cons.1 hu with rfl | hu
      · rfl
      · rw [List.mem_singleton.1 hu]; rfl)
  have HBS := Aside0.mk (show B ≤ w1.heap.size by have := HSZ.out; omega)
  have HRA := Aside0.mk (show (w1.drew.alloc (.cells #[.slice la ln lc, .slice none 0 0, .int .i64 (nn + 1)] 84)).ownsRow B 84 3 vN m (eCells (es.take m)) from World.ownsRow.alloc (w := w1.drew) HR1.out _)
  have HNE := Aside0.mk (show some K ≠ vN.ownBlock by
    intro e
    rcases HR1.out.2 with ⟨h, _⟩ | ⟨g, cap, cur, h, _, hg, _⟩
    · rw [h] at e; cases e
    · rw [h] at e
      have : K = g := by simpa [Value.ownBlock] using e
      subst this
      rw [show w1.heap[K]? = _ from HK2.out] at hg
      injection hg with hg; injection hg with _ h2 _
      exact absurd h2 (by decide))
  clear hi hz0 hz1 hz2
  go_region_law (first | (refine step_append_lies _ (by rfl) _ _ _ (by rfl) B 84 ti _ 3 56 Tryd.underlying37 HI.out.1 HI.out.2.1 HI.out.2.2.1 HI.out.2.2.2 rfl (by decide) vN m (eCells (es.take m)) (by rfl) HRA.out ⟨w1.heap.size, 0, none⟩ 1 1 [.slice la ln lc, .slice none 0 0, .int .i64 (nn + 1)] (by rfl) rfl (World.news_of_block (heap_alloc_new w1.drew _)) HONE.out (by decide) (by simp [maxLen]; omega) (by omega) (by have := HBS.out; simp; omega) _ rfl ?_; intro g cap w2 hown1 hgrow hat hlt; have HK3 := Aside0.mk (show BkBlk w2 K (nn + 1) vB vN from (hgrow.block K (by have := HK2.out.lt; simp; omega) HNE.out).trans ((heap_alloc_old w1.drew _ K HK2.out.lt).trans HK2.out)); have q1 := HK3.out.c2; have q2 := HK3.out.fz 2) | (fail))
  all_goals
    go_wp2
    go_end0
    have hb2 : Below B w1 w2 := (Below.alloc (Below.drew (Below.refl B w1)) HBS.out _).grown hgrow (by have := HBS.out; simp; omega) (fun k hk => own_base HR1.out k hk)
    have ht2 : TK (fun t => t = 44 ∨ t = 84) w1 w2 := by
      have hw : w1.grownBy w2 vN.ownBlock := ⟨hgrow.os, hgrow.tape, hgrow.output, Nat.le_trans (by simp) hgrow.size, fun k hk hne => (hgrow.block k (by simp; omega) hne).trans (heap_alloc_old w1.drew _ k hk)⟩
      exact TK.grown HR1.out hw (.inr rfl)
    refine ⟨rfl, _, (HK3.out.set2 _), ?_, ?_, ?_⟩
    · rw [HE.out]
      refine own_other hown1 (grownBy_setCellO w2 K _ _) (.inr (fun e => ?_))
      obtain ⟨c2, hc2⟩ := own_typed hown1 K e
      rw [show w2.heap[K]? = _ from HK3.out] at hc2
      injection hc2 with hc2; injection hc2 with _ h2 _
      exact absurd h2 (by decide)
    · exact (HT1.out.trans ht2).trans (TK.setCell HK3.out (.inl rfl))
    · exact (HB1.out.trans hb2).setCell (p := ⟨K, 2, none⟩) hB _

/-- The rows of a book's lists, and what they hold. -/
def RwsNumber (B : Nat) (w : World) (es : List Ent) (X : Nat → List Int) : Prop := ∀ (j : Nat) (h : j < es.length), w.ownsRow B 22 1 es[j].l es[j].len (nums .u32 (X j))
def FarNumber (es : List Ent) : Prop := ∀ (i j : Nat) (hi : i < es.length) (hj : j < es.length), i ≠ j → es[j].l.ownBlock = none ∨ es[j].l.ownBlock ≠ es[i].l.ownBlock
def markedNumber (es : List Ent) (j : Nat) : List Int := match es[j]? with | some e => List.replicate e.len (1000 + e.n) | none => []
theorem eAtNumber {w : World} {B g cap : Nat} {es : List Ent} (h : w.ownsRow B 84 3 (.slice (some ⟨g, 0, none⟩) es.length cap) es.length (eCells es)) (i : Nat) (hi : i < es.length) :
    w.cell? ⟨g, i * 3, none⟩ = some es[i].l ∧ w.cell? ⟨g, i * 3 + 1, none⟩ = some es[i].lg ∧ w.cell? ⟨g, i * 3 + 2, none⟩ = some (.int .i64 es[i].n) := by
  have h0 := h.cells (g := g) rfl (i * 3 + 0) es[i].l (by rw [eCells_at es i 0 hi (by omega)]; rfl)
  have h1 := h.cells (g := g) rfl (i * 3 + 1) es[i].lg (by rw [eCells_at es i 1 hi (by omega)]; rfl)
  have h2 := h.cells (g := g) rfl (i * 3 + 2) (.int .i64 es[i].n) (by rw [eCells_at es i 2 hi (by omega)]; rfl)
  rw [add_plain] at h0 h1 h2
  exact ⟨h0, h1, h2⟩
theorem RwsNumber.store {B : Nat} {w : World} {es : List Ent} {X : Nat → List Int} (h : RwsNumber B w es X) (hf : FarNumber es) (i : Nat) (hi : i < es.length) {g cap : Nat} (hl : es[i].l = .slice (some ⟨g, 0, none⟩) es[i].len cap) (k : Nat) (x : Int) :
    RwsNumber B (w.setCell ⟨g, k, none⟩ (.int .u32 x)) es (fun j => if j = i then (X i).set k x else X j) := by
  intro j hj
  dsimp only
  by_cases e : j = i
  · subst e
    have h1 := h j hj
    rw [hl] at h1 ⊢
    rw [if_pos rfl]
    have := (own_store h1 (k : Int) x).1
    rwa [Int.toNat_natCast] at this
  · rw [if_neg e]
    refine own_other (h j hj) (grownBy_setCellO w g k _) ?_
    have := hf i j hi hj (Ne.symm e)
    rw [hl] at this
    exact this
theorem RwsNumber.kept {B : Nat} {w w1 : World} {es : List Ent} {X : Nat → List Int} (h : RwsNumber B w es X) (hb : Below w.heap.size w w1) : RwsNumber B w1 es X :=
  fun j hj => pw_own_below (h j hj) hb
theorem RwsNumber.congr {B : Nat} {w : World} {es : List Ent} {X Y : Nat → List Int} (h : RwsNumber B w es X) (he : ∀ j, j < es.length → X j = Y j) : RwsNumber B w es Y :=
  fun j hj => by rw [← he j hj]; exact h j hj

set_option maxHeartbeats 8000000 in
set_option maxRecDepth 100000 in
theorem fillNumber_calls (B K : Nat) (nn : Int) (vB vN : Value) (es : List Ent) (X : Nat → List Int) (w : World) (hk : BkBlk w K nn vB vN) (hr : w.ownsRow B 84 3 vN es.length (eCells es)) (hrows : RwsNumber B w es X) (hfar : FarNumber es)
    (hnum : ∀ (j : Nat) (h : j < es.length), 0 ≤ es[j].n ∧ es[j].n ≤ 100 ∧ es[j].len ≤ 100000000) (hes : es.length ≤ 100) (hB : B ≤ w.heap.size) :
    Calls Tryd.prog 31 #[.pointer (some ⟨K, 0, none⟩)] w fun e w' => e = .returned (.tuple #[]) ∧ TK (fun t => t = 22) w w' ∧ Below B w w' ∧ RwsNumber B w' es (markedNumber es) := by
  obtain ⟨A, c, rfl⟩ := own_slice hr
  have HK := Aside0.mk hk
  have HR := Aside0.mk hr
  have HF := Aside0.mk hfar
  have HN := Aside0.mk hnum
  have HROWS := Aside0.mk hrows
  clear hk hr hfar hnum hrows
  go_enter Tryd.func31, Tryd.ntmps31
  go_wp2
  go_loopw [2] (fun v2 wr => ∃ i : Nat, i ≤ es.length ∧ v2 = .int .i64 i ∧ Aside0 (TK (fun t => t = 22) w wr) ∧ Aside0 (Below B w wr) ∧ Aside0 (RwsNumber B wr es (fun j => if j < i then markedNumber es j else X j))) (fun v2 _ => es.length - (intOf v2).toNat)
  case atStart => exact ⟨0, Nat.zero_le _, rfl, ⟨TK.refl _ _⟩, ⟨Below.refl _ _⟩, ⟨HROWS.out.congr (fun j _ => by rw [if_neg (by omega)])⟩⟩
  case round =>
    obtain ⟨i, hi, rfl, HT, HB, HX⟩ := hrel
    have hk1 := HT.out.blk HK.out (by decide)
    have c1 := hk1.c2
    clear hk1
    by_cases hlt : i < es.length
    · obtain ⟨g, cap, he, _, _⟩ := HR.out.form (by omega)
      injection he with he1 _ he2
      subst he1; subst he2
      have hrw := HT.out.row HR.out (by decide)
      obtain ⟨e0, e1, e2⟩ := eAtNumber hrw i hlt
      obtain ⟨E, hE⟩ : ∃ E, es[i] = E := ⟨_, rfl⟩
      rw [hE] at e0 e1 e2
      obtain ⟨la, len, lc, ga, gn, gc, n⟩ := E
      have HE := Aside0.mk hE
      clear hrw hE
      dsimp only at e0 e1 e2
      go_wp2_with fail
      obtain ⟨wh, hwh⟩ : ∃ wh, wr.alloc (.cells #[.slice la len lc, .slice ga gn gc, .int .i64 n] 84) = wh := ⟨_, rfl⟩
      obtain ⟨Hb, hHb⟩ : ∃ Hb, wr.heap.size = Hb := ⟨_, rfl⟩
      have hbh : Below wr.heap.size wr wh := hwh ▸ below_alloc (Below.refl _ _) _
      have HH := Aside0.mk (show wh.heap[Hb]? = some (.cells #[.slice la len lc, .slice ga gn gc, .int .i64 n] 84 (0, 0)) from hHb ▸ hwh ▸ World.alloc_heap_new wr _)
      have HTh := Aside0.mk (HT.out.trans (TK.of_below hbh _))
      have HBh := Aside0.mk (below_then HB.out (Nat.le_trans hB HB.out.size) hbh)
      have HXh := Aside0.mk (HX.out.kept hbh)
      have HHB := Aside0.mk hHb
      have hnn := HN.out i hlt
      have HL : Aside0 (es[i].len = len) := ⟨by rw [HE.out]⟩
      rw [HE.out] at hnn
      obtain ⟨n0, n1, n2⟩ := hnn
      dsimp only at n0 n1 n2
      have HM := Aside0.mk (show markedNumber es i = List.replicate len (1000 + n) by unfold markedNumber; rw [List.getElem?_eq_getElem hlt, HE.out])
      rw [hwh, hHb]
      clear hbh hwh hHb e0 e1 e2 c1 HT HB HX
      go_loopw [4] (fun v4 wr => ∃ k : Nat, k ≤ len ∧ v4 = .int .i64 k ∧ Aside0 (TK (fun t => t = 22) w wr) ∧ Aside0 (Below B w wr) ∧ Aside0 (RwsNumber B wr es (fun j => if j < i then markedNumber es j else if j = i then List.replicate k (1000 + n) ++ (X i).drop k else X j)) ∧ Aside0 (wr.heap[Hb]? = some (.cells #[.slice la len lc, .slice ga gn gc, .int .i64 n] 84 (0, 0)))) (fun v4 _ => len - (intOf v4).toNat)
      case atStart => exact ⟨0, Nat.zero_le _, rfl, HTh, HBh, ⟨HXh.out.congr (fun j _ => by
        by_cases h1 : j < i
        · rw [if_pos h1, if_pos h1]
        · rw [if_neg h1, if_neg h1]
          by_cases h2 : j = i
          · rw [if_pos h2, h2]; rfl
          · rw [if_neg h2])⟩, HH⟩
      case round =>
        clear HTh HBh HXh HH
        obtain ⟨k, hk, rfl, HT, HB, HX, HH⟩ := hrel
        have x0 : wr.cell? ⟨Hb, 0, none⟩ = some (.slice la len lc) := by simp [World.cell?, HH.out]
        have x2 : wr.cell? ⟨Hb, 2, none⟩ = some (.int .i64 n) := by simp [World.cell?, HH.out]
        by_cases hkl : k < len
        · have hrow := HX.out i hlt
          dsimp only at hrow
          rw [if_neg (by omega), if_pos rfl, HE.out] at hrow
          obtain ⟨g2, cap2, he2, hb2, _⟩ := hrow.form (by dsimp only; omega)
          injection he2 with he3 _ he4
          subst he3; subst he4
          have hat := own_at hrow (k : Int) (by omega) (by dsimp only; omega)
          rw [Int.toNat_natCast] at hat
          obtain ⟨y0, y1⟩ := hat
          have HLX := Aside0.mk (show (List.replicate k (1000 + n) ++ (X i).drop k).length = len by have := hrow.1; rw [nums_length] at this; simpa using this)
          have HS := Aside0.mk (HX.out.store HF.out i hlt (g := g2) (cap := lc) (by rw [HE.out]) k (1000 + n))
          have HBT := Aside0.mk (own_typed hrow g2 rfl)
          have HNB := Aside0.mk (show Hb ≠ g2 by
            intro e
            subst e
            obtain ⟨c2, hc2⟩ := own_typed hrow Hb rfl
            rw [HH.out] at hc2
            injection hc2 with hc2; injection hc2 with _ h2 _
            exact absurd h2 (by decide))
          have HB2 := Aside0.mk hb2
          clear hrow hb2
          go_wp2_with fail
          go_region_with (go_at_call 70; refine (markNumber_calls n _ n0 n1).mono ?_; rintro e w' ⟨rfl, rfl⟩)
          all_goals
            go_wp2
            go_roundw
            case rel =>
              refine ⟨k + 1, by omega, by go_num, ⟨(HT.out.trans (TK.of_below (Below.drew (Below.refl _ _)) _)).trans (TK.setCell (HBT.out).choose_spec rfl)⟩, ⟨(Below.drew HB.out).setCell (p := ⟨g2, k, none⟩) HB2.out _⟩, ⟨?_⟩, ⟨?_⟩⟩
              · have h1 := HS.out
                refine RwsNumber.congr (fun j hj => h1 j hj) (fun j hj => ?_)
                try dsimp only
                by_cases h2 : j = i
                · subst h2
                  simp only [Nat.lt_irrefl, if_true, if_false]
                  exact fill_step k len _ (X j) HLX.out hkl
                · rw [if_neg h2]
                  by_cases h3 : j < i
                  · rw [if_pos h3, if_pos h3]
                  · rw [if_neg h3, if_neg h3, if_neg h2, if_neg h2]
              · exact (Below.heap_setCell _ ⟨g2, k, none⟩ _ Hb HNB.out).trans HH.out
            case measure => simp [intOf]; omega
        · obtain rfl : k = len := by omega
          go_wp2
          go_roundw
          case rel =>
            refine ⟨i + 1, by omega, by go_num, HT, HB, ⟨HX.out.congr (fun j hj => ?_)⟩⟩
            try dsimp only
            by_cases h2 : j = i
            · subst h2
              rw [if_neg (by omega), if_pos rfl, if_pos (by omega), HM.out]
              have h3 := (HX.out j hj).1
              dsimp only at h3
              rw [if_neg (by omega), if_pos rfl, nums_length, List.length_append, List.length_replicate, List.length_drop, HL.out, Nat.mul_one] at h3
              rw [List.drop_eq_nil_of_le (by omega), List.append_nil]
            · by_cases h3 : j < i
              · rw [if_pos h3, if_pos (by omega)]
              · rw [if_neg h3, if_neg h2, if_neg (by omega)]
          case measure => simp [intOf]; omega
    · obtain rfl : i = es.length := by omega
      go_wp2
      go_end0
      exact ⟨rfl, HT.out, HB.out, HX.out.congr (fun j hj => by rw [if_pos hj])⟩

theorem readsNumber_kept {w w1 : World} {A : Option Addr} {n : Nat} {xs : List Int} (h : ReadsInt w .u32 A n xs) (hb : ∀ ad, A = some ad → 0 < n → w1.heap[ad.block]? = w.heap[ad.block]?) : ReadsInt w1 .u32 A n xs :=
  ⟨h.1, h.2.1, fun hn => by
    obtain ⟨ad, e, hc⟩ := h.2.2 hn
    refine ⟨ad, e, fun j hj => ?_⟩
    have h1 := hc j hj
    have h2 : (ad.add j).block = ad.block := by unfold Addr.add; split <;> rfl
    rw [World.cell?_of_block (a := ad.add j) (w := w) (by rw [h2]; exact hb ad e hn)]
    exact h1⟩
/-- A list that grows: what it is, and what it was made of is still read. -/
structure GrNumber (B : Nat) (w0 w : World) (la : Option Addr) (len lc : Nat) (m : Int) (A : Option Addr) (n c : Nat) : Prop where
  own : w.ownsRow B 22 1 (.slice A n c) n (nums .u32 (List.replicate n m))
  old : w0.ownsRow B 22 1 (.slice la len lc) len (nums .u32 (List.replicate len m))
  rd : ReadsInt w .u32 la len (List.replicate len m)
  kept : ∀ k, k < w0.heap.size → some k ≠ (Value.slice la len lc).ownBlock → w.heap[k]? = w0.heap[k]?
  bel : Below B w0 w
  at_ : (Value.slice A n c).ownBlock = (Value.slice la len lc).ownBlock ∨ ∃ b, w0.heap.size ≤ b ∧ (Value.slice A n c).ownBlock = some b
  le : len ≤ n
  ty : ∀ ad, la = some ad → ∃ c, w.heap[ad.block]? = some (.cells c 22 (0, 0))
theorem GrNumber.start {B : Nat} {w0 : World} {la : Option Addr} {len lc : Nat} {m : Int} (h : w0.ownsRow B 22 1 (.slice la len lc) len (nums .u32 (List.replicate len m))) : GrNumber B w0 w0 la len lc m la len lc := by
  obtain ⟨A, c, he, hr⟩ := own_reads h
  injection he with h1 _ h2
  subst h1
  exact ⟨h, h, hr, fun _ _ _ => rfl, Below.refl _ _, .inl rfl, Nat.le_refl _, fun ad e => own_typed h ad.block (by rw [e]; rfl)⟩
theorem GrNumber.step {B : Nat} {w0 w w1 : World} {la A : Option Addr} {len lc n c : Nat} {m : Int} (h : GrNumber B w0 w la len lc m A n c) (hb : Below w.heap.size w w1) (hB : B ≤ w.heap.size) : GrNumber B w0 w1 la len lc m A n c := by
  refine ⟨pw_own_below h.own hb, h.old, h.rd.below hb, fun k hk hn => ?_, below_then h.bel hB hb, h.at_, h.le, fun ad e => by
    obtain ⟨c2, hc2⟩ := h.ty ad e
    exact ⟨c2, (hb.block _ (Array.getElem?_eq_some_iff.1 hc2).1).trans hc2⟩⟩
  exact (hb.block k (Nat.lt_of_lt_of_le hk h.bel.size)).trans (h.kept k hk hn)
theorem GrNumber.room {B g : Nat} {w0 w w1 : World} {la : Option Addr} {len lc n c : Nat} {m : Int} (h : GrNumber B w0 w la len lc m (some ⟨g, 0, none⟩) n c)
    (ho : w1.ownsRow B 22 1 (.slice (some ⟨g, 0, none⟩) (n + 1) c) (n + 1) (nums .u32 (List.replicate n m) ++ [.int .u32 m])) (hg : w.grownBy w1 (some g)) (hB : B ≤ w.heap.size) : GrNumber B w0 w1 la len lc m (some ⟨g, 0, none⟩) (n + 1) c := by
  have ho2 : w1.ownsRow B 22 1 (.slice (some ⟨g, 0, none⟩) (n + 1) c) (n + 1) (nums .u32 (List.replicate (n + 1) m)) := by
    rw [List.replicate_succ', nums_append]; exact ho
  have hgB : B ≤ g := own_base ho g rfl
  refine ⟨ho2, h.old, ?_, fun k hk hn => ?_, h.bel.grown hg hB (fun k hk => by injection hk with hk; omega), h.at_, Nat.le_succ_of_le h.le, fun ad e => ?_⟩
  · by_cases hs : (Value.slice la len lc).ownBlock = some g
    · have ht := own_take (m := len) ho2 (Nat.le_succ_of_le h.le)
      have hx : (nums .u32 (List.replicate (n + 1) m)).take (len * 1) = nums .u32 (List.replicate len m) := by
        unfold nums
        rw [Nat.mul_one, ← List.map_take, List.take_replicate, Nat.min_eq_left (Nat.le_succ_of_le h.le)]
      rw [hx] at ht
      obtain ⟨A', c', he, hr⟩ := own_reads ht
      injection he with h1 _ h2
      subst h1
      have hla : la = some ⟨g, 0, none⟩ ∨ la = none := by
        rcases h.old.2 with ⟨e, _⟩ | ⟨g', cap', cur', e, _⟩
        · injection e with e _ _; exact .inr e
        · injection e with e _ _
          subst e
          have : g' = g := by simpa [Value.ownBlock] using hs
          subst this; exact .inl rfl
      rcases hla with rfl | rfl
      · exact hr
      · simp [Value.ownBlock] at hs
    · refine readsNumber_kept h.rd (fun ad e hn => hg.block ad.block ?_ ?_)
      · have := h.bel.size
        have h3 := own_lt h.old ad.block (by rw [e]; rfl)
        omega
      · intro e2
        rw [e] at hs
        exact hs e2
  · by_cases hs : some k = some g
    · rcases h.at_ with e | ⟨b, hb, e⟩
      · exact absurd (hs.trans e) hn
      · have : g = b := by simpa [Value.ownBlock] using e
        injection hs with hs
        omega
    · exact (hg.block k (Nat.lt_of_lt_of_le hk h.bel.size) hs).trans (h.kept k hk hn)
  · obtain ⟨c2, hc2⟩ := h.ty ad e
    by_cases hs : some ad.block = some g
    · exact own_typed ho ad.block hs.symm
    · exact ⟨c2, (hg.block _ (Array.getElem?_eq_some_iff.1 hc2).1 hs).trans hc2⟩
theorem GrNumber.new {B : Nat} {w0 w w1 : World} {la A : Option Addr} {len lc n c : Nat} {m : Int} (h : GrNumber B w0 w la len lc m A n c) {v : Value}
    (ho : w1.ownsRow w.heap.size 22 1 v (n + 1) (nums .u32 (List.replicate n m) ++ [.int .u32 m])) (hg : w.grownBy w1 none) (hB : B ≤ w.heap.size) : ∃ A1 c1, v = .slice A1 (n + 1) c1 ∧ GrNumber B w0 w1 la len lc m A1 (n + 1) c1 := by
  obtain ⟨g, cap, rfl, hgb, _⟩ := ho.form (by omega)
  have ho2 : w1.ownsRow w.heap.size 22 1 (.slice (some ⟨g, 0, none⟩) (n + 1) cap) (n + 1) (nums .u32 (List.replicate (n + 1) m)) := by
    rw [List.replicate_succ', nums_append]; exact ho
  have hb : Below w.heap.size w w1 := Below.grown (Below.refl _ w) hg (Nat.le_refl _) (fun _ hk => by cases hk)
  have h2 := h.step hb hB
  exact ⟨_, _, rfl, World.ownsRow.mono ho2 hB, h.old, h2.rd, h2.kept, h2.bel, .inr ⟨g, Nat.le_trans h.bel.size hgb, rfl⟩, Nat.le_succ_of_le h.le, h2.ty⟩
theorem GrNumber.tk {B : Nat} {w0 w : World} {la A : Option Addr} {len lc n c : Nat} {m : Int} (h : GrNumber B w0 w la len lc m A n c) : TK (fun t => t = 22) w0 w :=
  ⟨h.bel.os, h.bel.tape, h.bel.output, h.bel.size, fun k c t fr hk hn => h.kept k (Array.getElem?_eq_some_iff.1 hk).1 (fun e => by
    obtain ⟨c2, hc2⟩ := own_typed h.old k e.symm
    rw [hc2] at hk; injection hk with hk; injection hk with _ h2 _; exact hn h2.symm)⟩

/-- Both lists of an entry are read. -/
structure LkNumber (w : World) (e : Ent) : Prop where
  gn : e.gn = e.len + 40
  r1 : ReadsInt w .u32 e.la e.len (List.replicate e.len (1000 + e.n))
  r2 : ReadsInt w .u32 e.ga e.gn (List.replicate e.gn (1000 + e.n))
  t1 : ∀ ad, e.la = some ad → ∃ c, w.heap[ad.block]? = some (.cells c 22 (0, 0))
  t2 : ∀ ad, e.ga = some ad → ∃ c, w.heap[ad.block]? = some (.cells c 22 (0, 0))
theorem LkNumber.kept {w w1 : World} {e : Ent} (h : LkNumber w e) (h1 : ∀ ad, e.la = some ad → w1.heap[ad.block]? = w.heap[ad.block]?) (h2 : ∀ ad, e.ga = some ad → w1.heap[ad.block]? = w.heap[ad.block]?) : LkNumber w1 e :=
  ⟨h.gn, readsNumber_kept h.r1 (fun ad e _ => h1 ad e), readsNumber_kept h.r2 (fun ad e _ => h2 ad e), fun ad e => by
    obtain ⟨c, hc⟩ := h.t1 ad e; exact ⟨c, (h1 ad e).trans hc⟩, fun ad e => by
    obtain ⟨c, hc⟩ := h.t2 ad e; exact ⟨c, (h2 ad e).trans hc⟩⟩
theorem LkNumber.tk {T : TypeId → Prop} {w w1 : World} {e : Ent} (h : LkNumber w e) (hk : TK T w w1) (ht : ¬ T 22) : LkNumber w1 e :=
  h.kept (fun ad e => by obtain ⟨c, hc⟩ := h.t1 ad e; exact hk.block _ c 22 (0, 0) hc ht) (fun ad e => by obtain ⟨c, hc⟩ := h.t2 ad e; exact hk.block _ c 22 (0, 0) hc ht)
theorem GrNumber.lk {B : Nat} {w0 w : World} {la A : Option Addr} {len lc n c : Nat} {x : Int} (h : GrNumber B w0 w la len lc (1000 + x) A n c) (hn : n = len + 40) : LkNumber w ⟨la, len, lc, A, n, c, x⟩ := by
  obtain ⟨A', c', he, hr⟩ := own_reads h.own
  injection he with h1 _ h2
  subst h1
  exact ⟨hn, h.rd, hr, h.ty, fun ad e => own_typed h.own ad.block (by rw [show A = some ad from e]; rfl)⟩

theorem infoENumber : (Tryd.prog.info? 22).map (fun i => (i.zero, i.size, i.bytes)) = some (some (.int .u32 0), 1, 4) := by kernel_rfl
/-- How far a book's lists have grown. -/
structure GsNumber (B : Nat) (w0 wr : World) (VX : Value) (es fs : List Ent) (i : Nat) : Prop where
  len : fs.length = es.length
  same : ∀ (j : Nat) (h : j < es.length) (h' : j < fs.length), fs[j].la = es[j].la ∧ fs[j].len = es[j].len ∧ fs[j].lc = es[j].lc ∧ fs[j].n = es[j].n
  later : ∀ (j : Nat) (h : j < es.length) (h' : j < fs.length), i ≤ j → fs[j] = es[j]
  row : wr.ownsRow B 84 3 VX es.length (eCells fs)
  done : ∀ (j : Nat) (h : j < fs.length), j < i → LkNumber wr fs[j] ∧ ((Value.slice fs[j].ga fs[j].gn fs[j].gc).ownBlock = (Value.slice fs[j].la fs[j].len fs[j].lc).ownBlock ∨ ∃ b, w0.heap.size ≤ b ∧ (Value.slice fs[j].ga fs[j].gn fs[j].gc).ownBlock = some b)
  open_ : ∀ (j : Nat) (h : j < es.length), i ≤ j → wr.ownsRow B 22 1 es[j].l es[j].len (nums .u32 (markedNumber es j))
  first : ∀ (j : Nat) (h : j < es.length) (b : Nat), es[j].l.ownBlock = some b → b < w0.heap.size
  tk : TK (fun t => t = 22 ∨ t = 84) w0 wr
  bel : Below B w0 wr
theorem GsNumber.step {B : Nat} {w0 wr w1 : World} {VX : Value} {es fs : List Ent} {i : Nat} (h : GsNumber B w0 wr VX es fs i) (hb : Below wr.heap.size wr w1) (hB : B ≤ wr.heap.size) : GsNumber B w0 w1 VX es fs i :=
  ⟨h.len, h.same, h.later, pw_own_below h.row hb, fun j hj hi => ⟨(h.done j hj hi).1.tk (TK.of_below hb (fun _ => False)) (fun h => h), (h.done j hj hi).2⟩, fun j hj hi => pw_own_below (h.open_ j hj hi) hb, h.first, h.tk.trans (TK.of_below hb _), below_then h.bel hB hb⟩
theorem GsNumber.next {B : Nat} {w0 wh wr : World} {g cap : Nat} {es fs : List Ent} {i : Nat} {A : Option Addr} {n c : Nat} (h : GsNumber B w0 wh (.slice (some ⟨g, 0, none⟩) es.length cap) es fs i) (hf : FarNumber es) (hi : i < es.length)
    (hg : GrNumber B wh wr es[i].la es[i].len es[i].lc (1000 + es[i].n) A n c) (hn : n = es[i].len + 40) (hB : B ≤ wh.heap.size) :
    GsNumber B w0 (wr.setCell ⟨g, i * 3 + 1, none⟩ (.slice A n c)) (.slice (some ⟨g, 0, none⟩) es.length cap) es (fs.set i (es[i].lgTo A n c)) (i + 1) := by
  have hif : i < fs.length := by rw [h.len]; exact hi
  have hfi := h.later i hi hif (Nat.le_refl _)
  have hrow := (hg.tk).row h.row (by decide)
  have hst := hrow.stored (i * 3 + 1) (.slice A n c)
  obtain ⟨cg, hcg⟩ := own_typed hrow g rfl
  have hkeep : ∀ k c' t fr, wr.heap[k]? = some (Obj.cells c' t fr) → t ≠ 84 → (wr.setCell ⟨g, i * 3 + 1, none⟩ (.slice A n c)).heap[k]? = wr.heap[k]? := fun k c' t fr hk ht => Below.heap_setCell _ _ _ _ (fun e => by
    have e : k = g := e
    subst e; rw [hcg] at hk; injection hk with hk; injection hk with _ h2 _; exact ht h2.symm)
  have htk2 : TK (fun t => t = 84) wr (wr.setCell ⟨g, i * 3 + 1, none⟩ (.slice A n c)) := TK.setCell hcg rfl
  have hbg : B ≤ g := own_base hrow g rfl
  refine ⟨by rw [List.length_set]; exact h.len, fun j hj hj' => ?_, fun j hj hj' hij => ?_, ?_, fun j hj hji => ?_, fun j hj hij => ?_, h.first, (h.tk.trans (hg.tk.mono (fun t ht => .inl ht))).trans (htk2.mono (fun t ht => .inr ht)), ((h.bel.trans hg.bel).setCell (p := ⟨g, i * 3 + 1, none⟩) hbg _)⟩
  · by_cases e : i = j
    · subst e; rw [List.getElem_set_self]; exact ⟨rfl, rfl, rfl, rfl⟩
    · rw [List.getElem_set_ne e]; exact h.same j hj (by rw [h.len]; exact hj)
  · rw [List.getElem_set_ne (by omega)]; exact h.later j hj (by rw [h.len]; exact hj) (by omega)
  · have e := eCells_set fs i hif A n c
    rw [hfi] at e
    rw [← e]; exact hst.1
  · rw [List.length_set] at hj
    by_cases e : i = j
    · subst e
      have hlk := hg.lk hn
      rw [List.getElem_set_self]
      refine ⟨(show LkNumber wr (es[i].lgTo A n c) from hlk).tk htk2 (by decide), ?_⟩
      rcases hg.at_ with h1 | ⟨b, h1, h2⟩
      · exact .inl h1
      · exact .inr ⟨b, Nat.le_trans h.bel.size h1, h2⟩
    · rw [List.getElem_set_ne e]
      have hd := h.done j hj (by omega)
      have hjes : j < es.length := by rw [← h.len]; exact hj
      have hsm := h.same j hjes hj
      refine ⟨LkNumber.tk (hd.1.kept (fun ad ea => ?_) (fun ad ea => ?_)) htk2 (by decide), hd.2⟩
      · obtain ⟨c0, hc0⟩ := hd.1.t1 ad ea
        refine hg.kept ad.block (Array.getElem?_eq_some_iff.1 hc0).1 (fun e2 => ?_)
        have := hf i j hi hjes e
        rw [show es[j].l = .slice fs[j].la fs[j].len fs[j].lc by rw [hsm.1, hsm.2.1, hsm.2.2.1], ea] at this
        rcases this with h1 | h1
        · cases h1
        · exact h1 e2
      · obtain ⟨c0, hc0⟩ := hd.1.t2 ad ea
        refine hg.kept ad.block (Array.getElem?_eq_some_iff.1 hc0).1 (fun e2 => ?_)
        rcases hd.2 with h1 | ⟨b, h1, h2⟩
        · have := hf i j hi hjes e
          rw [show es[j].l = .slice fs[j].la fs[j].len fs[j].lc by rw [hsm.1, hsm.2.1, hsm.2.2.1], ← h1, ea] at this
          rcases this with h3 | h3
          · cases h3
          · exact h3 e2
        · rw [ea] at h2
          have hb : ad.block = b := by simpa [Value.ownBlock] using h2
          have := h.first i hi ad.block e2.symm
          omega
  · have hne : i ≠ j := by omega
    have h1 := h.open_ j hj (by omega)
    have h2 : wr.ownsRow B 22 1 es[j].l es[j].len (nums .u32 (markedNumber es j)) := own_move h1 (fun k hk => by
      refine hg.kept k (own_lt h1 k hk) (fun e2 => ?_)
      rcases hf i j hi hj hne with h3 | h3
      · rw [h3] at hk; cases hk
      · exact h3 (hk.trans e2))
    exact htk2.row h2 (by decide)

set_option maxHeartbeats 8000000 in
set_option maxRecDepth 100000 in
theorem growNumber_calls (B K : Nat) (nn : Int) (vB vN : Value) (es : List Ent) (w : World) (hk : BkBlk w K nn vB vN) (hr : w.ownsRow B 84 3 vN es.length (eCells es)) (hrows : RwsNumber B w es (markedNumber es)) (hfar : FarNumber es)
    (hnum : ∀ (j : Nat) (h : j < es.length), 0 ≤ es[j].n ∧ es[j].n ≤ 100 ∧ es[j].len ≤ 100000000) (hes : es.length ≤ 100) (hB : B ≤ w.heap.size) :
    Calls Tryd.prog 38 #[.pointer (some ⟨K, 0, none⟩)] w fun e w' => e = .returned (.tuple #[]) ∧ ∃ fs, GsNumber B w w' vN es fs es.length := by
  obtain ⟨A, c, rfl⟩ := own_slice hr
  have HK := Aside0.mk hk
  have HF := Aside0.mk hfar
  have HN := Aside0.mk hnum
  have HG0 := Aside0.mk (show GsNumber B w w (.slice A es.length c) es es 0 from ⟨rfl, fun _ _ _ => ⟨rfl, rfl, rfl, rfl⟩, fun _ _ _ _ => rfl, hr, fun _ _ h => by omega, fun j hj _ => hrows j hj, fun j hj b hb => own_lt (hrows j hj) b hb, TK.refl _ _, Below.refl _ _⟩)
  obtain ⟨ti, hi, hz0, hz1, hz2⟩ : ∃ i, Tryd.prog.info? 22 = some i ∧ i.zero = some (.int .u32 0) ∧ i.size = 1 ∧ i.bytes = 4 := by
    obtain ⟨i, hi, h2⟩ := Option.map_eq_some_iff.1 infoENumber
    simp only [Prod.mk.injEq] at h2
    exact ⟨i, hi, h2⟩
  have HI := Aside0.mk (And.intro hi (And.intro hz0 (And.intro hz1 hz2)))
  clear hk hr hfar hnum hrows hi hz0 hz1 hz2
  go_enter Tryd.func38, Tryd.ntmps38
  go_wp2
  go_loopw [2] (fun v2 wr => ∃ (i : Nat) (fs : List Ent), i ≤ es.length ∧ v2 = .int .i64 i ∧ Aside0 (GsNumber B w wr (.slice A es.length c) es fs i)) (fun v2 _ => es.length - (intOf v2).toNat)
  case atStart => exact ⟨0, es, Nat.zero_le _, rfl, HG0⟩
  case round =>
    obtain ⟨i, fs, hi, rfl, HG⟩ := hrel
    have hk1 := HG.out.tk.blk HK.out (by decide)
    have c1 := hk1.c2
    clear hk1
    by_cases hlt : i < es.length
    · have hif : i < fs.length := by rw [HG.out.len]; exact hlt
      obtain ⟨g, cap, he, _, _⟩ := HG.out.row.form (by omega)
      injection he with he1 _ he2
      subst he1; subst he2
      have hrw := HG.out.row
      rw [← HG.out.len] at hrw
      obtain ⟨e0, e1, e2⟩ := eAtNumber hrw i hif
      have hfe := HG.out.later i hlt hif (Nat.le_refl _)
      rw [hfe] at e0 e1 e2
      obtain ⟨E, hE⟩ : ∃ E, es[i] = E := ⟨_, rfl⟩
      rw [hE] at e0 e1 e2
      have hnn := HN.out i hlt
      rw [hE] at hnn
      have hop := HG.out.open_ i hlt (Nat.le_refl _)
      have hmk : markedNumber es i = List.replicate E.len (1000 + E.n) := by unfold markedNumber; rw [List.getElem?_eq_getElem hlt, hE]
      rw [hmk, hE] at hop
      obtain ⟨la, len, lc, ga, gn, gc, n⟩ := E
      have HE := Aside0.mk hE
      have HOP := Aside0.mk hop
      obtain ⟨n0, n1, n2⟩ := hnn
      dsimp only at e0 e1 e2 n0 n1 n2
      clear hrw hE hfe hop hmk
      go_wp2_with fail
      obtain ⟨wh, hwh⟩ : ∃ wh, wr.alloc (.cells #[.slice la len lc, .slice ga gn gc, .int .i64 n] 84) = wh := ⟨_, rfl⟩
      obtain ⟨Hb, hHb⟩ : ∃ Hb, wr.heap.size = Hb := ⟨_, rfl⟩
      have hbh : Below wr.heap.size wr wh := hwh ▸ below_alloc (Below.refl _ _) _
      have HH := Aside0.mk (show wh.heap[Hb]? = some (.cells #[.slice la len lc, .slice ga gn gc, .int .i64 n] 84 (0, 0)) from hHb ▸ hwh ▸ World.alloc_heap_new wr _)
      have hBr : B ≤ wr.heap.size := Nat.le_trans hB HG.out.bel.size
      have HGh := Aside0.mk (HG.out.step hbh hBr)
      have HGR := Aside0.mk (GrNumber.start (pw_own_below HOP.out hbh))
      have HBW := Aside0.mk (show B ≤ wh.heap.size from Nat.le_trans hBr hbh.size)
      have HBL := Aside0.mk (show Hb < wh.heap.size by rw [← hwh, ← hHb]; simp)
      rw [hwh, hHb]
      clear hbh hwh hHb e0 e1 e2 c1 HG HOP hBr
      go_loopw [4, 5] (fun v4 v5 wr => ∃ (k : Nat) (A2 : Option Addr) (c2 : Nat), k ≤ 40 ∧ v5 = .int .i64 k ∧ v4 = .slice A2 (len + k) c2 ∧ Aside0 (GrNumber B wh wr la len lc (1000 + n) A2 (len + k) c2)) (fun _ v5 _ => 40 - (intOf v5).toNat)
      case atStart => exact ⟨0, la, lc, by omega, rfl, rfl, HGR⟩
      case round =>
        clear HGR
        obtain ⟨k, A2, c2, hk, rfl, rfl, HR⟩ := hrel
        have HHr := Aside0.mk (show wr.heap[Hb]? = some (.cells #[.slice la len lc, .slice ga gn gc, .int .i64 n] 84 (0, 0)) from (HR.out.tk.block Hb _ 84 (0, 0) HH.out (by decide)).trans HH.out)
        have x2 : wr.cell? ⟨Hb, 2, none⟩ = some (.int .i64 n) := by simp [World.cell?, HHr.out]
        have HBR := Aside0.mk (show B ≤ wr.heap.size from Nat.le_trans HBW.out HR.out.bel.size)
        by_cases hkl : k < 40
        · have hnews : ∀ j u, [Value.int .u32 (1000 + n)][j]? = some u → (wr.alloc (.cells #[.int .u32 (1000 + n)] 22)).cell? ((⟨wr.heap.size, 0, none⟩ : Addr).add j) = some u := World.news_of_block (heap_alloc_new wr _)
          have HNW := Aside0.mk hnews
          have HON := Aside0.mk (show ∀ u ∈ [Value.int .u32 (1000 + n)], u.oneCell' = true by intro u hu; rw [List.mem_singleton.1 hu]; rfl)
          have HRA := Aside0.mk (HR.out.step (below_alloc (Below.refl _ _) (.cells #[.int .u32 (1000 + n)] 22)) HBR.out)
          clear hnews
          by_cases hroom : len + k + 1 ≤ c2
          · obtain ⟨g2, rfl⟩ : ∃ g2, A2 = some ⟨g2, 0, none⟩ := by
              rcases HR.out.own.2 with ⟨h, _⟩ | ⟨g2, cap2, cur, h, _⟩
              · injection h with _ _ h3; omega
              · injection h with h _ _; exact ⟨g2, h⟩
            go_wp2_with (first | (go_at_call 70; refine (markNumber_calls n _ n0 n1).mono ?_; rintro e w' ⟨rfl, rfl⟩) | (at_builtin; refine wpList_append_own_spare _ rfl _ _ 23 rfl B 22 ti 1 Tryd.underlying23 HI.out.1 HI.out.2.2.1 g2 (len + k) c2 _ rfl HRA.out.own ⟨wr.heap.size, 0, none⟩ 1 1 [.int .u32 (1000 + n)] rfl rfl HNW.out HON.out hroom ?_; intro w2 ho2 hg2; have HR2 := Aside0.mk (HRA.out.room ho2 hg2 (Nat.le_trans HBR.out (by simp))); clear ho2 hg2))
            go_roundw
            case rel => exact ⟨k + 1, some ⟨g2, 0, none⟩, c2, by omega, by go_num, rfl, HR2⟩
            case measure => simp [intOf]; omega
          · have hown := HRA.out.own
            have HOC := Aside0.mk (show ∀ b, A2 = some b → ∀ j u, (nums .u32 (List.replicate (len + k) (1000 + n)))[j]? = some u → (wr.alloc (.cells #[.int .u32 (1000 + n)] 22)).cell? (b.add j) = some u from by
              intro b hb j u hu
              subst hb
              rcases hown.2 with ⟨h, _⟩ | ⟨g2, cap2, cur, h, _⟩
              · cases h
              · injection h with h _ _
                injection h with h
                subst h
                exact hown.cells rfl j u hu)
            have HNO := Aside0.mk (show A2 = none → len + k = 0 ∧ c2 = 0 from by
              intro hb
              subst hb
              rcases hown.2 with ⟨h, h0⟩ | ⟨g2, cap2, cur, h, _⟩
              · injection h with _ h1 h2; exact ⟨h0, h2⟩
              · cases h)
            have HLO := Aside0.mk (show (nums .u32 (List.replicate (len + k) (1000 + n))).length = (len + k) * 1 from hown.1)
            clear hown
            go_wp2_with (first | (go_at_call 70; refine (markNumber_calls n _ n0 n1).mono ?_; rintro e w' ⟨rfl, rfl⟩) | (at_builtin; refine wpList_append_grows _ rfl _ _ 23 rfl 22 ti _ 1 4 Tryd.underlying23 HI.out.1 HI.out.2.1 HI.out.2.2.1 HI.out.2.2.2 rfl (by decide) A2 (len + k) c2 _ rfl HNO.out HLO.out HOC.out ⟨wr.heap.size, 0, none⟩ 1 1 [.int .u32 (1000 + n)] rfl rfl HNW.out HON.out (by omega) (by simp [maxLen]; omega) (by omega) ?_; intro v2 w2 ho2 hg2; obtain ⟨A3, c3, rfl, hr3⟩ := HRA.out.new ho2 hg2 (Nat.le_trans HBR.out (by simp)); have HR2 := Aside0.mk hr3; clear ho2 hg2 hr3))
            go_roundw
            case rel => exact ⟨k + 1, A3, c3, by omega, by go_num, rfl, HR2⟩
            case measure => simp [intOf]; omega
        · obtain rfl : k = 40 := by omega
          have hk2 := (HGh.out.tk.trans (HR.out.tk.mono (fun t ht => .inl ht))).blk HK.out (by decide)
          have c2' := hk2.c2
          have hrr := HR.out.tk.row HGh.out.row (by decide)
          have q1 := hrr.frozenAt (i * 3 + 1)
          rw [← HGh.out.len] at hrr
          obtain ⟨_, q2, _⟩ := eAtNumber hrr i hif
          have HNX := Aside0.mk (HGh.out.next HF.out hlt (by rw [HE.out]; exact HR.out) (by rw [HE.out]) HBW.out)
          clear hk2 hrr
          go_wp2
          go_roundw
          case rel => exact ⟨i + 1, _, by omega, by go_num, HNX⟩
          case measure => simp [intOf]; omega
    · obtain rfl : i = es.length := by omega
      go_wp2
      go_end0
      exact ⟨rfl, fs, HG.out⟩

theorem repNumber_at {w : World} {A : Option Addr} {n : Nat} {m : Int} (h : ReadsInt w .u32 A n (List.replicate n m)) (k : Nat) (hk : k < n) : ∃ ad, A = some ad ∧ w.cell? (ad.add k) = some (.int .u32 m) := by
  obtain ⟨ad, e, hc⟩ := h.2.2 (by omega)
  have := hc k hk
  rw [List.getD_eq_getElem?_getD, List.getElem?_replicate, if_pos hk] at this
  exact ⟨ad, e, this⟩
set_option maxHeartbeats 8000000 in
set_option maxRecDepth 100000 in
theorem lookNumber_calls (B K : Nat) (nn : Int) (vB vN : Value) (fs : List Ent) (w : World) (hk : BkBlk w K nn vB vN) (hr : w.ownsRow B 84 3 vN fs.length (eCells fs)) (hlk : ∀ (j : Nat) (h : j < fs.length), LkNumber w fs[j])
    (hnum : ∀ (j : Nat) (h : j < fs.length), 0 ≤ fs[j].n ∧ fs[j].n ≤ 100 ∧ fs[j].len ≤ 100000000) (hes : fs.length ≤ 100) :
    Calls Tryd.prog 45 #[.pointer (some ⟨K, 0, none⟩)] w fun e w' => e = .returned (.bool true) ∧ Below w.heap.size w w' := by
  obtain ⟨A, c, rfl⟩ := own_slice hr
  have HK := Aside0.mk hk
  have HR := Aside0.mk hr
  have HL := Aside0.mk hlk
  have HN := Aside0.mk hnum
  clear hk hr hnum hlk
  go_enter Tryd.func45, Tryd.ntmps45
  go_wp2
  go_loopw [3] (fun v3 wr => ∃ i : Nat, i ≤ fs.length ∧ v3 = .int .i64 i ∧ Aside0 (Below w.heap.size w wr)) (fun v3 _ => fs.length - (intOf v3).toNat)
  case atStart => exact ⟨0, Nat.zero_le _, rfl, ⟨Below.refl _ _⟩⟩
  case round =>
    obtain ⟨i, hi, rfl, HB⟩ := hrel
    have htk := TK.of_below HB.out (fun _ => False)
    have hk1 := htk.blk HK.out (fun h => h)
    have c1 := hk1.c2
    clear hk1
    by_cases hlt : i < fs.length
    · obtain ⟨g, cap, he, _, _⟩ := HR.out.form (by omega)
      injection he with he1 _ he2
      subst he1; subst he2
      obtain ⟨e0, e1, e2⟩ := eAtNumber (pw_own_below HR.out HB.out) i hlt
      have hlk := (HL.out i hlt).tk htk (fun h => h)
      obtain ⟨E, hE⟩ : ∃ E, fs[i] = E := ⟨_, rfl⟩
      have hnn := HN.out i hlt
      rw [hE] at e0 e1 e2 hlk hnn
      obtain ⟨la, len, lc, ga, gn, gc, n⟩ := E
      obtain ⟨n0, n1, n2⟩ := hnn
      have hgn : gn = len + 40 := hlk.gn
      subst hgn
      dsimp only at e0 e1 e2 n0 n1 n2
      have c3 : (((len + 40 : Nat) : Int) != (len : Int) + 40) = false := by simp
      have HLK := Aside0.mk hlk
      clear hE hlk htk
      obtain ⟨wh, hwh⟩ : ∃ wh, wr.alloc (.cells #[.slice la len lc, .slice ga (len + 40) gc, .int .i64 n] 84) = wh := ⟨_, rfl⟩
      obtain ⟨Hb, hHb⟩ : ∃ Hb, wr.heap.size = Hb := ⟨_, rfl⟩
      have hbh : Below wr.heap.size wr wh := hwh ▸ below_alloc (Below.refl _ _) _
      have hh : wh.heap[Hb]? = some (.cells #[.slice la len lc, .slice ga (len + 40) gc, .int .i64 n] 84 (0, 0)) := hHb ▸ hwh ▸ World.alloc_heap_new wr _
      have x0 : wh.cell? ⟨Hb, 0, none⟩ = some (.slice la len lc) := by simp [World.cell?, hh]
      have x1 : wh.cell? ⟨Hb, 1, none⟩ = some (.slice ga (len + 40) gc) := by simp [World.cell?, hh]
      have x2 : wh.cell? ⟨Hb, 2, none⟩ = some (.int .i64 n) := by simp [World.cell?, hh]
      have HX0 := Aside0.mk x0
      have HX1 := Aside0.mk x1
      have HX2 := Aside0.mk x2
      rw [← hwh, ← hHb] at x0 x1
      have HBh := Aside0.mk (below_then HB.out HB.out.size hbh)
      have HLh := Aside0.mk (HLK.out.tk (TK.of_below hbh (fun _ => False)) (fun h => h))
      have HW := Aside0.mk hwh
      have HHB := Aside0.mk hHb
      clear hbh hh hwh hHb x2 HLK
      go_wp2_with fail
      rw [HW.out, HHB.out]
      clear e0 e1 e2 c1 x0 x1 HB
      go_loopw [5] (fun v5 wr => ∃ k : Nat, k ≤ len + 40 ∧ v5 = .int .i64 k ∧ Aside0 (Drawn0 wh wr)) (fun v5 _ => len + 40 - (intOf v5).toNat)
      case atStart => exact ⟨0, by omega, rfl, ⟨Drawn0.refl _⟩⟩
      case round =>
        obtain ⟨k, hkk, rfl, HD⟩ := hrel
        have hdb := HD.out.below
        have x0 := pw_cell_below hdb HX0.out
        have x1 := pw_cell_below hdb HX1.out
        have x2 := pw_cell_below hdb HX2.out
        by_cases hkl : k < len + 40
        · obtain ⟨ad2, ea2, hc2⟩ := repNumber_at HLh.out.r2 k hkl
          have ea2 : ga = some ad2 := ea2
          subst ea2
          have y2 := pw_cell_below hdb hc2
          have p1 : (k : Int) < ((len + 40 : Nat) : Int) := by omega
          have hcall : ∀ W, Calls Tryd.prog 77 #[.int .u32 (1000 + n), .int .i64 n] W fun e w' => e = .returned (.bool true) ∧ w' = W := fun W => (isNumber_calls (1000 + n) n W n0 n1 rfl).mono fun _ _ ⟨h1, h2⟩ => ⟨h1, h2.symm⟩
          have HCL := Aside0.mk hcall
          clear hc2 hcall
          by_cases hk2 : k < len
          · obtain ⟨ad1, ea1, hc1⟩ := repNumber_at HLh.out.r1 k hk2
            have ea1 : la = some ad1 := ea1
            subst ea1
            have y1 := pw_cell_below hdb hc1
            have hd : decide ((k : Int) < (len : Int)) = true := decide_eq_true (by omega)
            clear hc1 hdb
            go_wp2_with fail
            go_quiet ((go_at_call 77; exact Calls.quiet_of_same (HCL.out _)))
            go_wp2
            go_roundw
            case rel => exact ⟨k + 1, by omega, by go_num, ⟨HD.out.step _⟩⟩
            case measure => simp [intOf]; omega
          · have hd : decide ((k : Int) < (len : Int)) = false := decide_eq_false (by omega)
            clear hdb
            go_wp2_with fail
            go_quiet ((go_at_call 77; exact Calls.quiet_of_same (HCL.out _)))
            go_wp2
            go_roundw
            case rel => exact ⟨k + 1, by omega, by go_num, ⟨HD.out.step _⟩⟩
            case measure => simp [intOf]; omega
        · obtain rfl : k = len + 40 := by omega
          go_wp2
          go_roundw
          case rel => exact ⟨i + 1, by omega, by go_num, ⟨below_then HBh.out HBh.out.size HD.out.below⟩⟩
          case measure => simp [intOf]; omega
    · obtain rfl : i = fs.length := by omega
      go_wp2
      go_ret
      exact ⟨rfl, HB.out⟩

/-- A book as it is filled: all lists that will be in it are told from the start; the first mb, mn are kept so far. -/
structure BookS (w0 w : World) (K : Nat) (nn : Int) (mb mn : Nat) (bs ns : List Ent) : Prop where
  ex : ∃ vB vN, BkBlk w K nn vB vN ∧ w.ownsRow w0.heap.size 81 3 vB mb (eCells (bs.take mb)) ∧ w.ownsRow w0.heap.size 84 3 vN mn (eCells (ns.take mn))
  rb : ∃ X, RwsByte w0.heap.size w bs X
  rn : ∃ X, RwsNumber w0.heap.size w ns X
  fb : FarByte bs
  fn : FarNumber ns
  nb : ∀ (j : Nat) (h : j < bs.length), 0 ≤ bs[j].n ∧ bs[j].n ≤ 100 ∧ bs[j].len ≤ 100000000
  nu : ∀ (j : Nat) (h : j < ns.length), 0 ≤ ns[j].n ∧ ns[j].n ≤ 100 ∧ ns[j].len ≤ 100000000
  lb : bs.length ≤ 100
  ln : ns.length ≤ 100
  bel : Below w0.heap.size w0 w
  hK : w0.heap.size ≤ K
theorem BookS.step {w0 w w1 : World} {K : Nat} {nn : Int} {mb mn : Nat} {bs ns : List Ent} (h : BookS w0 w K nn mb mn bs ns) (hb : Below w.heap.size w w1) : BookS w0 w1 K nn mb mn bs ns := by
  obtain ⟨vB, vN, h1, h2, h3⟩ := h.ex
  obtain ⟨X, hX⟩ := h.rb
  obtain ⟨Y, hY⟩ := h.rn
  exact ⟨⟨vB, vN, (TK.of_below hb (fun _ => False)).blk h1 (fun h => h), pw_own_below h2 hb, pw_own_below h3 hb⟩, ⟨X, hX.kept hb⟩, ⟨Y, hY.kept hb⟩, h.fb, h.fn, h.nb, h.nu, h.lb, h.ln, below_then h.bel h.bel.size hb, h.hK⟩
set_option maxHeartbeats 1000000 in
theorem bytes_keep (w0 w : World) (K : Nat) (nn : Int) (mb mn : Nat) (bs ns : List Ent) (la : Option Addr) (len lc : Nat) (h : BookS w0 w K nn mb mn bs ns) (hm : mb < bs.length) (he : bs[mb] = ⟨la, len, lc, none, 0, 0, nn + 1⟩) (h0 : 0 ≤ nn) (h1 : nn ≤ 100) :
    Calls Tryd.prog 12 #[.pointer (some ⟨K, 0, none⟩), .slice la len lc] w fun e w' => e = .returned (.tuple #[]) ∧ BookS w0 w' K (nn + 1) (mb + 1) mn bs ns := by
  obtain ⟨vB, vN, k1, k2, k3⟩ := h.ex
  have hc := keepByte_calls w0.heap.size K nn vB vN mb bs la len lc w k1 k2 hm (by rw [he]) (by rw [he]) (by rw [he]) h0 h1 (by have := h.lb; omega) h.hK
  have H := Aside0.mk h
  have K3 := Aside0.mk k3
  clear h k1 k2 k3 he
  go_enter Tryd.func12, Tryd.ntmps12
  go_wp2_with fail
  refine hc.mono ?_
  clear hc
  rintro e w1 ⟨rfl, vX, a1, a2, a3, a4⟩
  obtain ⟨X, hX⟩ := H.out.rb
  obtain ⟨Y, hY⟩ := H.out.rn
  have HE := Aside0.mk (show BookS w0 w1 K (nn + 1) (mb + 1) mn bs ns from ⟨⟨vX, vN, a1, a2, a3.row K3.out (by decide)⟩, ⟨X, fun j hj => a3.row (hX j hj) (by decide)⟩, ⟨Y, fun j hj => a3.row (hY j hj) (by decide)⟩, H.out.fb, H.out.fn, H.out.nb, H.out.nu, H.out.lb, H.out.ln, H.out.bel.trans a4, H.out.hK⟩)
  clear a1 a2 a3 a4 hX hY
  go_wp2
  go_end0
  exact ⟨rfl, HE.out⟩
set_option maxHeartbeats 1000000 in
theorem numbers_keep (w0 w : World) (K : Nat) (nn : Int) (mb mn : Nat) (bs ns : List Ent) (la : Option Addr) (len lc : Nat) (h : BookS w0 w K nn mb mn bs ns) (hm : mn < ns.length) (he : ns[mn] = ⟨la, len, lc, none, 0, 0, nn + 1⟩) (h0 : 0 ≤ nn) (h1 : nn ≤ 100) :
    Calls Tryd.prog 68 #[.pointer (some ⟨K, 0, none⟩), .slice la len lc] w fun e w' => e = .returned (.tuple #[]) ∧ BookS w0 w' K (nn + 1) mb (mn + 1) bs ns := by
  obtain ⟨vB, vN, k1, k2, k3⟩ := h.ex
  have hc := keepNumber_calls w0.heap.size K nn vB vN mn ns la len lc w k1 k3 hm (by rw [he]) (by rw [he]) (by rw [he]) h0 h1 (by have := h.ln; omega) h.hK
  have H := Aside0.mk h
  have K3 := Aside0.mk k2
  clear h k1 k2 k3 he
  go_enter Tryd.func68, Tryd.ntmps68
  go_wp2_with fail
  refine hc.mono ?_
  clear hc
  rintro e w1 ⟨rfl, vX, a1, a2, a3, a4⟩
  obtain ⟨X, hX⟩ := H.out.rb
  obtain ⟨Y, hY⟩ := H.out.rn
  have HE := Aside0.mk (show BookS w0 w1 K (nn + 1) mb (mn + 1) bs ns from ⟨⟨vB, vX, a1, a3.row K3.out (by decide), a2⟩, ⟨X, fun j hj => a3.row (hX j hj) (by decide)⟩, ⟨Y, fun j hj => a3.row (hY j hj) (by decide)⟩, H.out.fb, H.out.fn, H.out.nb, H.out.nu, H.out.lb, H.out.ln, H.out.bel.trans a4, H.out.hK⟩)
  clear a1 a2 a3 a4 hX hY
  go_wp2
  go_end0
  exact ⟨rfl, HE.out⟩
set_option maxHeartbeats 1000000 in
theorem cred_keep (w0 w : World) (K : Nat) (nn : Int) (mb mn : Nat) (bs ns : List Ent) (u g : Int) (la : Option Addr) (len lc : Nat) (h : BookS w0 w K nn mb mn bs ns) (hm : mn < ns.length) (he : ns[mn] = ⟨la, len, lc, none, 0, 0, nn + 1⟩) (h0 : 0 ≤ nn) (h1 : nn ≤ 100) :
    Calls Tryd.prog 28 #[.pointer (some ⟨K, 0, none⟩), .agg #[.int .u32 u, .int .u32 g, .slice la len lc]] w fun e w' => e = .returned (.tuple #[]) ∧ BookS w0 w' K (nn + 1) mb (mn + 1) bs ns := by
  have hc := fun W (hW : BookS w0 W K nn mb mn bs ns) => numbers_keep w0 W K nn mb mn bs ns la len lc hW hm he h0 h1
  have HC := Aside0.mk hc
  have H := Aside0.mk (h.step (below_alloc (Below.refl _ _) (.cells #[.int .u32 u, .int .u32 g, .slice la len lc] 25)))
  clear h he hc
  go_enter Tryd.func28, Tryd.ntmps28
  go_wp2_with fail
  refine (HC.out _ H.out).mono ?_
  rintro e w1 ⟨rfl, hs⟩
  have HE := Aside0.mk hs
  clear hs
  go_wp2
  go_end0
  exact ⟨rfl, HE.out⟩
set_option maxHeartbeats 4000000 in
set_option maxRecDepth 100000 in
theorem apart_calls (w0 w : World) (K : Nat) (nn : Int) (bs ns : List Ent) (h : BookS w0 w K nn bs.length ns.length bs ns) :
    Calls Tryd.prog 13 #[.pointer (some ⟨K, 0, none⟩)] w fun e w' => e = .returned (.bool true) ∧ Below w0.heap.size w0 w' := by
  obtain ⟨vB, vN, k1, k2, k3⟩ := h.ex
  rw [List.take_length] at k2 k3
  obtain ⟨X, hX⟩ := h.rb
  obtain ⟨Y, hY⟩ := h.rn
  have H := Aside0.mk h
  have K1 := Aside0.mk k1
  have K2 := Aside0.mk k2
  have K3 := Aside0.mk k3
  have HX := Aside0.mk hX
  have HY := Aside0.mk hY
  clear h k1 k2 k3 hX hY
  go_enter Tryd.func13, Tryd.ntmps13
  go_wp2_with fail
  refine (fillByte_calls w0.heap.size K nn vB vN bs X w K1.out K2.out HX.out H.out.fb H.out.nb H.out.lb H.out.bel.size).mono ?_
  rintro e w1 ⟨rfl, t1, b1, r1⟩
  have B1 := Aside0.mk (H.out.bel.trans b1)
  have R1 := Aside0.mk r1
  have P1 := Aside0.mk (t1.blk K1.out (by decide))
  have Q1 := Aside0.mk (t1.row K2.out (by decide))
  have U1 := Aside0.mk (t1.row K3.out (by decide))
  have Y1 := Aside0.mk (show RwsNumber w0.heap.size w1 ns Y from fun j hj => t1.row (HY.out j hj) (by decide))
  clear t1 b1 r1 K1 K2 K3 HX HY
  go_wp2_with fail
  refine (fillNumber_calls w0.heap.size K nn vB vN ns Y w1 P1.out U1.out Y1.out H.out.fn H.out.nu H.out.ln B1.out.size).mono ?_
  rintro e w2 ⟨rfl, t2, b2, r2⟩
  have B2 := Aside0.mk (B1.out.trans b2)
  have Y2 := Aside0.mk r2
  have P2 := Aside0.mk (t2.blk P1.out (by decide))
  have Q2 := Aside0.mk (t2.row Q1.out (by decide))
  have U2 := Aside0.mk (t2.row U1.out (by decide))
  have R2 := Aside0.mk (show RwsByte w0.heap.size w2 bs (markedByte bs) from fun j hj => t2.row (R1.out j hj) (by decide))
  clear t2 b2 r2 P1 Q1 U1 R1 Y1 B1
  go_wp2_with (first | (go_at_call 32; refine (fillText_calls K _ P2.out.c3).mono ?_; rintro e w' ⟨rfl, rfl⟩) | (go_at_call 33; refine (fillBlob_calls K _ P2.out.c4).mono ?_; rintro e w' ⟨rfl, rfl⟩) | (go_at_call 34; refine (fillItem_calls K _ P2.out.c5).mono ?_; rintro e w' ⟨rfl, rfl⟩) | (go_at_call 35; refine (fillEntry_calls K _ P2.out.c6).mono ?_; rintro e w' ⟨rfl, rfl⟩) | (go_at_call 36; refine (fillNode_calls K _ P2.out.c7).mono ?_; rintro e w' ⟨rfl, rfl⟩))
  refine (growByte_calls w0.heap.size K nn vB vN bs w2 P2.out Q2.out R2.out H.out.fb H.out.nb H.out.lb B2.out.size).mono ?_
  rintro e w3 ⟨rfl, fs, g3⟩
  have B3 := Aside0.mk (B2.out.trans g3.bel)
  have P3 := Aside0.mk (g3.tk.blk P2.out (by decide))
  have U3 := Aside0.mk (g3.tk.row U2.out (by decide))
  have Y3 := Aside0.mk (show RwsNumber w0.heap.size w3 ns (markedNumber ns) from fun j hj => g3.tk.row (Y2.out j hj) (by decide))
  have G3 := Aside0.mk g3
  clear g3 P2 Q2 U2 R2 Y2 B2
  go_wp2_with fail
  refine (growNumber_calls w0.heap.size K nn vB vN ns w3 P3.out U3.out Y3.out H.out.fn H.out.nu H.out.ln B3.out.size).mono ?_
  rintro e w4 ⟨rfl, gs, g4⟩
  have B4 := Aside0.mk (B3.out.trans g4.bel)
  have P4 := Aside0.mk (g4.tk.blk P3.out (by decide))
  have Q4 := Aside0.mk (show w4.ownsRow w0.heap.size 81 3 vB fs.length (eCells fs) from by rw [G3.out.len]; exact g4.tk.row G3.out.row (by decide))
  have L4 := Aside0.mk (show ∀ (j : Nat) (h : j < fs.length), LkByte w4 fs[j] from fun j hj => ((G3.out.done j hj (by rw [← G3.out.len]; exact hj)).1).tk g4.tk (by decide))
  have N4 := Aside0.mk (show ∀ (j : Nat) (h : j < fs.length), 0 ≤ fs[j].n ∧ fs[j].n ≤ 100 ∧ fs[j].len ≤ 100000000 from fun j hj => by
    have hjb : j < bs.length := by rw [← G3.out.len]; exact hj
    have hs := G3.out.same j hjb hj
    rw [hs.2.2.2, hs.2.1]; exact H.out.nb j hjb)
  have U4 := Aside0.mk (show w4.ownsRow w0.heap.size 84 3 vN gs.length (eCells gs) from by rw [g4.len]; exact g4.row)
  have M4 := Aside0.mk (show ∀ (j : Nat) (h : j < gs.length), LkNumber w4 gs[j] from fun j hj => (g4.done j hj (by rw [← g4.len]; exact hj)).1)
  have O4 := Aside0.mk (show ∀ (j : Nat) (h : j < gs.length), 0 ≤ gs[j].n ∧ gs[j].n ≤ 100 ∧ gs[j].len ≤ 100000000 from fun j hj => by
    have hjb : j < ns.length := by rw [← g4.len]; exact hj
    have hs := g4.same j hjb hj
    rw [hs.2.2.2, hs.2.1]; exact H.out.nu j hjb)
  have FL := Aside0.mk (show fs.length ≤ 100 by rw [G3.out.len]; exact H.out.lb)
  have GL := Aside0.mk (show gs.length ≤ 100 by rw [g4.len]; exact H.out.ln)
  clear g4 G3 P3 U3 Y3 B3
  go_wp2_with (first | (go_at_call 39; refine (growText_calls K _ P4.out.c3).mono ?_; rintro e w' ⟨rfl, rfl⟩) | (go_at_call 40; refine (growBlob_calls K _ P4.out.c4).mono ?_; rintro e w' ⟨rfl, rfl⟩) | (go_at_call 41; refine (growItem_calls K _ P4.out.c5).mono ?_; rintro e w' ⟨rfl, rfl⟩) | (go_at_call 42; refine (growEntry_calls K _ P4.out.c6).mono ?_; rintro e w' ⟨rfl, rfl⟩) | (go_at_call 43; refine (growNode_calls K _ P4.out.c7).mono ?_; rintro e w' ⟨rfl, rfl⟩))
  refine (lookByte_calls w0.heap.size K nn vB vN fs w4 P4.out Q4.out L4.out N4.out FL.out).mono ?_
  rintro e w5 ⟨rfl, b5⟩
  have B5 := Aside0.mk (below_then B4.out B4.out.size b5)
  have T5 := TK.of_below b5 (fun _ => False)
  have P5 := Aside0.mk (T5.blk P4.out (fun h => h))
  have U5 := Aside0.mk (pw_own_below U4.out b5)
  have M5 := Aside0.mk (show ∀ (j : Nat) (h : j < gs.length), LkNumber w5 gs[j] from fun j hj => (M4.out j hj).tk T5 (fun h => h))
  clear b5 T5 B4 Q4 L4 N4 P4 U4 M4
  go_wp2_with fail
  refine (lookNumber_calls w0.heap.size K nn vB vN gs w5 P5.out U5.out M5.out O4.out GL.out).mono ?_
  rintro e w6 ⟨rfl, b6⟩
  have B6 := Aside0.mk (below_then B5.out B5.out.size b6)
  have P6 := Aside0.mk ((TK.of_below b6 (fun _ => False)).blk P5.out (fun h => h))
  clear b6 B5 P5 U5 M5
  go_wp2_with (first | (go_at_call 46; refine (lookText_calls K _ P6.out.c3).mono ?_; rintro e w' ⟨rfl, rfl⟩) | (go_at_call 47; refine (lookBlob_calls K _ P6.out.c4).mono ?_; rintro e w' ⟨rfl, rfl⟩) | (go_at_call 48; refine (lookItem_calls K _ P6.out.c5).mono ?_; rintro e w' ⟨rfl, rfl⟩) | (go_at_call 49; refine (lookEntry_calls K _ P6.out.c6).mono ?_; rintro e w' ⟨rfl, rfl⟩) | (go_at_call 50; refine (lookNode_calls K _ P6.out.c7).mono ?_; rintro e w' ⟨rfl, rfl⟩))
  go_ret
  exact ⟨rfl, B6.out⟩

theorem lit_readsK (k : IntKind) (t : TypeId) (W : World) (xs : List Int) (cs : Array Value) (fr : Nat × Nat) (hcs : cs = (nums k xs).toArray) (hl : xs.length ≤ 9223372036854775807) :
    Kd.C (Kd.int k) (W.alloc (.cells cs t fr)) (some ⟨W.heap.size, 0, none⟩) xs.length xs := by
  subst hcs
  refine Kd.C_of_reads (d := (0 : Int)) (h1 := fun _ => rfl) ⟨rfl, hl, fun _ => ⟨_, rfl, fun j hj => ?_⟩⟩
  have h := cell_of_row (W.alloc (.cells (nums k xs).toArray t fr)) W.heap.size j (nums k xs).toArray t fr (heap_alloc_new W _)
  rw [add_plain, h]
  simp [nums, List.getD_eq_getElem?_getD, List.getElem?_eq_getElem hj]



/-- An entry of a list that is kept. -/
abbrev ent (A : Option Addr) (n c : Nat) (k : Int) : Ent := ⟨A, n, c, none, 0, 0, k⟩
/-- Lists that were made one behind the other lie apart. -/
theorem far_mono (es : List Ent) (lo : Nat → Nat) (hm : ∀ i, lo i ≤ lo (i + 1)) (h : ∀ (j : Nat) (hj : j < es.length) (k : Nat), es[j].l.ownBlock = some k → lo j ≤ k ∧ k < lo (j + 1)) :
    ∀ (i j : Nat) (hi : i < es.length) (hj : j < es.length), i ≠ j → es[j].l.ownBlock = none ∨ es[j].l.ownBlock ≠ es[i].l.ownBlock := by
  have hmm : ∀ d i, lo i ≤ lo (i + d) := by
    intro d
    induction d with
    | zero => intro i; exact Nat.le_refl _
    | succ d ih => intro i; exact Nat.le_trans (ih i) (hm (i + d))
  intro i j hi hj hne
  cases hb : es[j].l.ownBlock with
  | none => exact .inl rfl
  | some k =>
    refine .inr (fun e => ?_)
    have h1 := h j hj k hb
    have h2 := h i hi k e.symm
    rcases Nat.lt_or_gt_of_ne hne with hlt | hlt
    · have := hmm (j - (i + 1)) (i + 1)
      rw [show i + 1 + (j - (i + 1)) = j by omega] at this
      omega
    · have := hmm (i - (j + 1)) (j + 1)
      rw [show j + 1 + (i - (j + 1)) = i by omega] at this
      omega
theorem book_new {w0 w : World} {bs ns : List Ent} (hb : Below w0.heap.size w0 w) (rb : ∃ X, RwsByte w0.heap.size w bs X) (rn : ∃ X, RwsNumber w0.heap.size w ns X) (fb : FarByte bs) (fn : FarNumber ns)
    (nb : ∀ (j : Nat) (h : j < bs.length), 0 ≤ bs[j].n ∧ bs[j].n ≤ 100 ∧ bs[j].len ≤ 100000000) (nu : ∀ (j : Nat) (h : j < ns.length), 0 ≤ ns[j].n ∧ ns[j].n ≤ 100 ∧ ns[j].len ≤ 100000000) (lb : bs.length ≤ 100) (ln : ns.length ≤ 100) :
    BookS w0 (w.alloc (.cells #[.int .i64 0, .slice none 0 0, .slice none 0 0, .slice none 0 0, .slice none 0 0, .slice none 0 0, .slice none 0 0, .slice none 0 0] 44)) w.heap.size 0 0 0 bs ns := by
  have h1 := below_alloc (Below.refl w.heap.size w) (.cells #[.int .i64 0, .slice none 0 0, .slice none 0 0, .slice none 0 0, .slice none 0 0, .slice none 0 0, .slice none 0 0, .slice none 0 0] 44)
  obtain ⟨X, hX⟩ := rb
  obtain ⟨Y, hY⟩ := rn
  exact ⟨⟨_, _, World.alloc_heap_new w _, World.ownsRow_nil _ _ _ _, World.ownsRow_nil _ _ _ _⟩, ⟨X, hX.kept h1⟩, ⟨Y, hY.kept h1⟩, fb, fn, nb, nu, lb, ln, below_then hb hb.size h1, hb.size⟩
theorem rows0 {B : Nat} {w : World} : ∃ X, RwsNumber B w [] X := ⟨fun _ => [], fun j hj => by simp at hj⟩
theorem farN0 : FarNumber [] := fun i j hi => by simp at hi
theorem nums0 : ∀ (j : Nat) (h : j < ([] : List Ent).length), 0 ≤ ([] : List Ent)[j].n ∧ ([] : List Ent)[j].n ≤ 100 ∧ ([] : List Ent)[j].len ≤ 100000000 := fun j h => by simp at h
/-- A row of bytes, as a book wants it. -/
theorem row_of {w : World} {base B : Nat} {A : Option Addr} {c : Nat} {xs : List Int} (h : OB w base (.slice A xs.length c) xs) (hB : B ≤ base) : w.ownsRow B 5 1 (.slice A xs.length c) xs.length (nums .u8 xs) :=
  World.ownsRow.mono (Kd.own_of_R h) hB
theorem rows2 {B : Nat} {w : World} {A1 A2 : Option Addr} {n1 n2 c1 c2 : Nat} {x1 x2 : List Int} {k1 k2 : Int} (h1 : w.ownsRow B 5 1 (.slice A1 n1 c1) n1 (nums .u8 x1)) (h2 : w.ownsRow B 5 1 (.slice A2 n2 c2) n2 (nums .u8 x2)) :
    ∃ X, RwsByte B w [ent A1 n1 c1 k1, ent A2 n2 c2 k2] X :=
  ⟨fun j => if j = 0 then x1 else x2, fun j hj => by
    match j, hj with
    | 0, _ => exact h1
    | 1, _ => exact h2⟩
theorem rows3 {B : Nat} {w : World} {A1 A2 A3 : Option Addr} {n1 n2 n3 c1 c2 c3 : Nat} {x1 x2 x3 : List Int} {k1 k2 k3 : Int} (h1 : w.ownsRow B 5 1 (.slice A1 n1 c1) n1 (nums .u8 x1)) (h2 : w.ownsRow B 5 1 (.slice A2 n2 c2) n2 (nums .u8 x2)) (h3 : w.ownsRow B 5 1 (.slice A3 n3 c3) n3 (nums .u8 x3)) :
    ∃ X, RwsByte B w [ent A1 n1 c1 k1, ent A2 n2 c2 k2, ent A3 n3 c3 k3] X :=
  ⟨fun j => if j = 0 then x1 else if j = 1 then x2 else x3, fun j hj => by
    match j, hj with
    | 0, _ => exact h1
    | 1, _ => exact h2
    | 2, _ => exact h3⟩
theorem far2 {A1 A2 : Option Addr} {n1 n2 c1 c2 : Nat} {k1 k2 : Int} (h : ∀ a b, (Value.slice A1 n1 c1).ownBlock = some a → (Value.slice A2 n2 c2).ownBlock = some b → a < b) : FarByte [ent A1 n1 c1 k1, ent A2 n2 c2 k2] := by
  have key : ∀ (v1 v2 : Value), (∀ a b, v1.ownBlock = some a → v2.ownBlock = some b → a < b) → (v2.ownBlock = none ∨ v2.ownBlock ≠ v1.ownBlock) ∧ (v1.ownBlock = none ∨ v1.ownBlock ≠ v2.ownBlock) := by
    intro v1 v2 h
    cases h1 : v1.ownBlock with
    | none => exact ⟨by cases v2.ownBlock <;> simp, .inl rfl⟩
    | some a =>
      cases h2 : v2.ownBlock with
      | none => exact ⟨.inl rfl, .inr (by simp)⟩
      | some b =>
        have := h a b h1 h2
        exact ⟨.inr (fun e => by injection e; omega), .inr (fun e => by injection e; omega)⟩
  have hk := key _ _ h
  intro i j hi hj hne
  match i, j, hi, hj with
  | 0, 0, _, _ => exact absurd rfl hne
  | 1, 1, _, _ => exact absurd rfl hne
  | 0, 1, _, _ => exact hk.1
  | 1, 0, _, _ => exact hk.2
theorem far3 {A1 A2 A3 : Option Addr} {n1 n2 n3 c1 c2 c3 : Nat} {k1 k2 k3 : Int} (h12 : ∀ a b, (Value.slice A1 n1 c1).ownBlock = some a → (Value.slice A2 n2 c2).ownBlock = some b → a < b)
    (h13 : ∀ a b, (Value.slice A1 n1 c1).ownBlock = some a → (Value.slice A3 n3 c3).ownBlock = some b → a < b) (h23 : ∀ a b, (Value.slice A2 n2 c2).ownBlock = some a → (Value.slice A3 n3 c3).ownBlock = some b → a < b) : FarByte [ent A1 n1 c1 k1, ent A2 n2 c2 k2, ent A3 n3 c3 k3] := by
  have a := far2 (k1 := k1) (k2 := k2) h12
  have b := far2 (k1 := k1) (k2 := k3) h13
  have c := far2 (k1 := k2) (k2 := k3) h23
  intro i j hi hj hne
  match i, j, hi, hj with
  | 0, 0, _, _ => exact absurd rfl hne
  | 1, 1, _, _ => exact absurd rfl hne
  | 2, 2, _, _ => exact absurd rfl hne
  | 0, 1, _, _ => exact a 0 1 (by simp) (by simp) (by omega)
  | 1, 0, _, _ => exact a 1 0 (by simp) (by simp) (by omega)
  | 0, 2, _, _ => exact b 0 1 (by simp) (by simp) (by omega)
  | 2, 0, _, _ => exact b 1 0 (by simp) (by simp) (by omega)
  | 1, 2, _, _ => exact c 0 1 (by simp) (by simp) (by omega)
  | 2, 1, _, _ => exact c 1 0 (by simp) (by simp) (by omega)
theorem nb2 {A1 A2 : Option Addr} {n1 n2 c1 c2 : Nat} {k1 k2 : Int} (h1 : n1 ≤ 100000000) (h2 : n2 ≤ 100000000) (a1 : 0 ≤ k1 ∧ k1 ≤ 100) (a2 : 0 ≤ k2 ∧ k2 ≤ 100) :
    ∀ (j : Nat) (h : j < [ent A1 n1 c1 k1, ent A2 n2 c2 k2].length), 0 ≤ [ent A1 n1 c1 k1, ent A2 n2 c2 k2][j].n ∧ [ent A1 n1 c1 k1, ent A2 n2 c2 k2][j].n ≤ 100 ∧ [ent A1 n1 c1 k1, ent A2 n2 c2 k2][j].len ≤ 100000000 := fun j hj => by
  match j, hj with
  | 0, _ => exact ⟨a1.1, a1.2, h1⟩
  | 1, _ => exact ⟨a2.1, a2.2, h2⟩
theorem nb3 {A1 A2 A3 : Option Addr} {n1 n2 n3 c1 c2 c3 : Nat} {k1 k2 k3 : Int} (h1 : n1 ≤ 100000000) (h2 : n2 ≤ 100000000) (h3 : n3 ≤ 100000000) (a1 : 0 ≤ k1 ∧ k1 ≤ 100) (a2 : 0 ≤ k2 ∧ k2 ≤ 100) (a3 : 0 ≤ k3 ∧ k3 ≤ 100) :
    ∀ (j : Nat) (h : j < [ent A1 n1 c1 k1, ent A2 n2 c2 k2, ent A3 n3 c3 k3].length), 0 ≤ [ent A1 n1 c1 k1, ent A2 n2 c2 k2, ent A3 n3 c3 k3][j].n ∧ [ent A1 n1 c1 k1, ent A2 n2 c2 k2, ent A3 n3 c3 k3][j].n ≤ 100 ∧ [ent A1 n1 c1 k1, ent A2 n2 c2 k2, ent A3 n3 c3 k3][j].len ≤ 100000000 := fun j hj => by
  match j, hj with
  | 0, _ => exact ⟨a1.1, a1.2, h1⟩
  | 1, _ => exact ⟨a2.1, a2.2, h2⟩
  | 2, _ => exact ⟨a3.1, a3.2, h3⟩
theorem len_le2 (a b : Ent) : [a, b].length ≤ 100 := Nat.le_of_ble_eq_true rfl
theorem len_le3 (a b c : Ent) : [a, b, c].length ≤ 100 := Nat.le_of_ble_eq_true rfl
theorem len_le0 : ([] : List Ent).length ≤ 100 := Nat.zero_le _
theorem lt02 (a b : Ent) : 0 < [a, b].length := Nat.succ_pos _
theorem lt12 (a b : Ent) : 1 < [a, b].length := Nat.lt_of_lt_of_le (Nat.lt_succ_self 1) (Nat.le_refl _)
theorem lt03 (a b c : Ent) : 0 < [a, b, c].length := Nat.succ_pos _
theorem lt13 (a b c : Ent) : 1 < [a, b, c].length := Nat.le_of_ble_eq_true rfl
theorem lt23 (a b c : Ent) : 2 < [a, b, c].length := Nat.le_of_ble_eq_true rfl
/-- A copy with a mark behind it, as a book wants it. -/
theorem row_twin {w : World} {base B : Nat} {A : Option Addr} {c : Nat} {l : List Int} {x : Int} (h : OB w base (.slice A (l.length + 1) c) (l ++ [x])) (hB : B ≤ base) : w.ownsRow B 5 1 (.slice A l.length c) l.length (nums .u8 l) := by
  have h1 := Kd.own_of_R h
  rw [List.length_append, List.length_singleton] at h1
  have h2 := own_take (m := l.length) h1 (Nat.le_succ _)
  have hx : (encs (Value.int .u8) (l ++ [x])).take (l.length * 1) = nums .u8 l := by
    unfold encs nums
    rw [Nat.mul_one, List.map_append, List.take_left' (by rw [List.length_map])]
  rw [hx] at h2
  exact World.ownsRow.mono h2 hB
/-- What was made later lies behind. -/
theorem later_than {w : World} {B B2 : Nat} {v1 v2 : Value} {n1 n2 : Nat} {x1 : List Value} {w2 : World} {e1 e2 : TypeId} {s1 s2 : Nat} {x2 : List Value} (h1 : w.ownsRow B e1 s1 v1 n1 x1) (h2 : w2.ownsRow B2 e2 s2 v2 n2 x2) (hB : w.heap.size ≤ B2) :
    ∀ a b, v1.ownBlock = some a → v2.ownBlock = some b → a < b := fun a b ha hb => by
  have := own_lt h1 a ha
  have := own_base h2 b hb
  omega
end Go.Proofs.YtoalknneifpehaaDoor.Hand
