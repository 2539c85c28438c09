/- Bytes that are put one behind the other are got one behind the other, all in multiples of four. For all lists of bytes (the law lets go of more than 100 lists and of great ones). No condition. -/
import Derived.Test.YtclojfnmknknjaaG5
import Derived.Test.YtclojfnmknknjaaQ02
namespace Go.Proofs.Ytclojfnmknknjaa.Pure
open Go.RowKit Go.Proofs.Ytclojfnmknknjaa.G Go.Proofs.Ytclojfnmknknjaa.Hand Go.Proofs.YtclojfnmknknjaaW.PrintWords Go.Proofs.YtclojfnmknknjaaW.PrintLast

theorem rdL_nat (xss : List (List Int)) (i : Nat) (h : i < xss.length) : rd_L2 xss (i : Int) = xss[i] := by
  unfold rd_L2; rw [Int.toNat_natCast, List.getD_eq_getElem?_getD, List.getElem?_eq_getElem h]; rfl
def szL (xss : List (List Int)) : Int := (xss.map fun x => (x.length : Int)).sum
theorem szL_nonneg (xss : List (List Int)) : 0 ≤ szL xss := sum_nonneg (by intro x hx; obtain ⟨y, _, rfl⟩ := List.mem_map.1 hx; omega)
theorem szL_cons (x : List Int) (xss : List (List Int)) : szL (x :: xss) = x.length + szL xss := by simp [szL]
theorem szL_mem {xss : List (List Int)} {x : List Int} (h : x ∈ xss) : (x.length : Int) ≤ szL xss := by
  induction xss with
  | nil => cases h
  | cons y xss ih =>
    rw [szL_cons]
    have := szL_nonneg xss
    rcases List.mem_cons.1 h with rfl | h
    · omega
    · have := ih h; omega

/-- MessagesSize: beyond 1000000 it only tells that it is beyond. -/
theorem msize_l0 (xss : List (List Int)) (hn : xss.length ≤ 100) (hx : ∀ x ∈ xss, x.length ≤ 140737488351232) (d : Nat) : ∀ (k i : Nat) (acc : Int), xss.length - i = d → i ≤ xss.length → d < k → 0 ≤ acc → acc ≤ 140737489351232 →
    ∃ m, wharfingerlaw01_MessagesSize.l0 k xss acc (i : Int) = some m ∧ (m = acc + szL (xss.drop i) ∨ m > 1000000) := by
  induction d with
  | zero =>
    intro k i acc hd hi hk ha hb
    obtain ⟨k, rfl⟩ : ∃ m, k = m + 1 := ⟨k - 1, by omega⟩
    simp only [wharfingerlaw01_MessagesSize.l0]
    rw [if_neg (by omega), List.drop_of_length_le (by omega)]
    exact ⟨acc, rfl, .inl (by simp [szL])⟩
  | succ d ih =>
    intro k i acc hd hi hk ha hb
    obtain ⟨k, rfl⟩ : ∃ m, k = m + 1 := ⟨k - 1, by omega⟩
    have hlt : i < xss.length := by omega
    have hl := hx xss[i] (List.getElem_mem _)
    simp only [wharfingerlaw01_MessagesSize.l0]
    rw [if_pos (by omega)]
    by_cases h : acc ≤ 1000000
    · rw [if_pos h, if_pos (by omega), rdL_nat xss i hlt, wrap_in (x := acc + (xss[i].length : Int)) (by omega) (by omega), wrap_in (x := (i : Int) + 1) (by omega) (by omega), show ((i : Int) + 1) = ((i + 1 : Nat) : Int) by omega]
      obtain ⟨m, hm, hv⟩ := ih k (i + 1) (acc + xss[i].length) (by omega) (by omega) (by omega) (by omega) (by omega)
      refine ⟨m, hm, ?_⟩
      rw [List.drop_eq_getElem_cons hlt, szL_cons]
      rcases hv with hv | hv
      · exact .inl (by omega)
      · exact .inr hv
    · rw [if_neg h]
      exact ⟨acc, rfl, .inr (by omega)⟩

/-- All that was put, from the i-th list on. -/
def allL (xss : List (List Int)) : List Int := (xss.map putL).flatten
theorem allL_cons (x : List Int) (xss : List (List Int)) : allL (x :: xss) = putL x ++ allL xss := by simp [allL]
theorem allL_snoc (xss : List (List Int)) (i : Nat) (h : i < xss.length) : allL (xss.take (i + 1)) = allL (xss.take i) ++ putL xss[i] := by
  unfold allL; rw [List.take_succ_eq_append_getElem h, List.map_append, List.flatten_append]; simp
theorem allL_split (xss : List (List Int)) (i : Nat) : allL xss = allL (xss.take i) ++ allL (xss.drop i) := by
  unfold allL; rw [← List.flatten_append, ← List.map_append, List.take_append_drop]
theorem allL_le (xss : List (List Int)) : ((allL xss).length : Int) ≤ szL xss + 7 * xss.length := by
  induction xss with
  | nil => simp [allL, szL]
  | cons x xss ih =>
    rw [allL_cons, szL_cons, List.length_append, putL_length, List.length_cons]
    have := padI_range x.length
    omega
theorem szL_take (xss : List (List Int)) (i : Nat) : szL (xss.take i) ≤ szL xss := by
  have h : szL xss = szL (xss.take i) + szL (xss.drop i) := by unfold szL; rw [← List.sum_append, ← List.map_append, List.take_append_drop]
  have := szL_nonneg (xss.drop i); omega

theorem row_l1 (xss : List (List Int)) (hn : xss.length ≤ 100) (hs : szL xss ≤ 100000) (d : Nat) : ∀ (k i : Nat), xss.length - i = d → i ≤ xss.length → d < k → 100010 < k - d →
    wharfingerlaw02_OpaqueRow.l1 k xss (allL xss) ((allL (xss.take i)).length : Int) (i : Int) = some true := by
  have hal := allL_le xss
  induction d with
  | zero =>
    intro k i hd hi hk hk2
    obtain ⟨k, rfl⟩ : ∃ m, k = m + 1 := ⟨k - 1, by omega⟩
    simp only [wharfingerlaw02_OpaqueRow.l1]
    rw [if_neg (by omega), List.take_of_length_le (by omega)]
    simp
  | succ d ih =>
    intro k i hd hi hk hk2
    obtain ⟨k, rfl⟩ : ∃ m, k = m + 1 := ⟨k - 1, by omega⟩
    have hlt : i < xss.length := by omega
    have hsp := allL_split xss i
    have hl : (allL xss).length = (allL (xss.take i)).length + (allL (xss.drop i)).length := by rw [← List.length_append, ← hsp]
    have hdr : allL (xss.drop i) = putL xss[i] ++ allL (xss.drop (i + 1)) := by rw [List.drop_eq_getElem_cons hlt, allL_cons]
    have hdl : (allL (xss.drop i)).length = (putL xss[i]).length + (allL (xss.drop (i + 1))).length := by rw [hdr, List.length_append]
    have hx : (xss[i].length : Int) ≤ 100000 := Int.le_trans (szL_mem (List.getElem_mem _)) hs
    have hpl := putL_length xss[i]
    have hpm := putL_mod xss[i]
    have hp := padI_range xss[i].length
    have hsn := allL_snoc xss i hlt
    simp only [wharfingerlaw02_OpaqueRow.l1]
    rw [if_pos (by omega), if_pos (by omega), if_pos (by omega), Int.toNat_natCast]
    have hdrop : (allL xss).drop (allL (xss.take i)).length = putL xss[i] ++ allL (xss.drop (i + 1)) := by rw [hsp, List.drop_left, hdr]
    rw [hdrop, get_put xss[i] _ 100000 (by omega) (by omega), Option.bind_some]
    dsimp only
    rw [if_pos rfl, if_pos (by rw [Int.tmod_eq_emod_of_nonneg (by omega)]; omega), if_neg (by omega), wrap_in (by omega) (by omega), if_neg (by omega), if_pos (by omega), rdL_nat xss i hlt, same_self _ _ (by omega) (by omega), Option.bind_some, if_pos rfl]
    rw [wrap_in (x := (i : Int) + 1) (by omega) (by omega), show ((i : Int) + 1) = ((i + 1 : Nat) : Int) by omega]
    have := ih k (i + 1) (by omega) (by omega) (by omega) (by omega)
    rw [hsn, List.length_append] at this
    rw [show ((allL (xss.take i)).length : Int) + (4 + (xss[i].length : Int) + padI xss[i].length) = (((allL (xss.take i)).length + (putL xss[i]).length : Nat) : Int) by omega]
    exact this

theorem row_l0 (xss : List (List Int)) (hn : xss.length ≤ 100) (hs : szL xss ≤ 100000) (d : Nat) : ∀ (k i : Nat), xss.length - i = d → i ≤ xss.length → d + 100200 < k →
    wharfingerlaw02_OpaqueRow.l0 k xss (allL (xss.take i)) (i : Int) = some true := by
  induction d with
  | zero =>
    intro k i hd hi hk
    obtain ⟨k, rfl⟩ : ∃ m, k = m + 1 := ⟨k - 1, by omega⟩
    simp only [wharfingerlaw02_OpaqueRow.l0]
    rw [if_neg (by omega), List.take_of_length_le (by omega)]
    have := row_l1 xss hn hs xss.length k 0 (by omega) (by omega) (by omega) (by omega)
    simpa [allL] using this
  | succ d ih =>
    intro k i hd hi hk
    obtain ⟨k, rfl⟩ : ∃ m, k = m + 1 := ⟨k - 1, by omega⟩
    have hlt : i < xss.length := by omega
    have hx : (xss[i].length : Int) ≤ 100000 := Int.le_trans (szL_mem (List.getElem_mem _)) hs
    have h1 := allL_le (xss.take i)
    have h2 := szL_take xss i
    have hpl := putL_length xss[i]
    have hp := padI_range xss[i].length
    have h3 : (xss.take i).length ≤ 100 := by rw [List.length_take]; omega
    simp only [wharfingerlaw02_OpaqueRow.l0]
    rw [if_pos (by omega), if_pos (by omega), rdL_nat xss i hlt, put_f _ (by omega), Option.bind_some, if_pos (by omega), ← allL_snoc xss i hlt, wrap_in (x := (i : Int) + 1) (by omega) (by omega), show ((i : Int) + 1) = ((i + 1 : Nat) : Int) by omega]
    exact ih k (i + 1) (by omega) (by omega) (by omega)

theorem OpaqueRow (xss : List (List Int)) (hm : xss.length ≤ 9223372036854775807) (hx : ∀ xs ∈ xss, xs.length ≤ 140737488351232 ∧ ∀ x ∈ xs, (Lit.int .u8 x).wf = true) : ∃ k, wharfingerlaw02_OpaqueRow.f k xss = some true := by
  obtain ⟨K, hK⟩ : ∃ K, K = 200000 := ⟨_, rfl⟩
  refine ⟨K + 1, ?_⟩
  unfold wharfingerlaw02_OpaqueRow.f
  simp only [wharfingerlaw02_alive.f, Option.bind_some, if_true]
  have out : wharfingerlaw02_OpaqueRow.j0 (K + 1) xss true = some true := by
    simp only [wharfingerlaw02_OpaqueRow.j0, wharfingerlaw02_alive.f]; rfl
  by_cases h : (xss.length : Int) > 100
  · rw [if_pos h]; exact out
  · rw [if_neg h]
    obtain ⟨m, hmm, hv⟩ := msize_l0 xss (by omega) (fun x hx' => (hx x hx').1) xss.length (K + 1) 0 xss.length (by omega) (by omega) (by omega) (by omega) (by omega)
    have e : wharfingerlaw01_MessagesSize.f (K + 1) xss = some m := by unfold wharfingerlaw01_MessagesSize.f; exact hmm
    rw [e, Option.bind_some]
    by_cases hb : m > 100000
    · rw [decide_eq_true hb]; exact out
    · rw [decide_eq_false hb]
      have hs : szL xss ≤ 100000 := by
        rcases hv with hv | hv
        · rw [List.drop_zero] at hv; omega
        · omega
      simp only [wharfingerlaw02_OpaqueRow.j0, Bool.false_eq_true, if_false]
      have := row_l0 xss (by omega) hs xss.length K 0 (by omega) (by omega) (by omega)
      simpa [allL] using this

end Go.Proofs.Ytclojfnmknknjaa.Pure
