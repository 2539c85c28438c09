import Derived.Test.YtncplnobmiljfaaDoorGC1
import Derived.Test.YtncplnobmiljfaaDoorQ03
import Derived.Test.YtncplnobmiljfaaDoorGP1
import Derived.Test.YtncplnobmiljfaaDoorNB
import Derived.Test.YtncplnobmiljfaaDoorT2
import Derived.Test.YtncplnobmiljfaaDoorOpen
import Derived.Test.YtncplnobmiljfaaDoorProg
import Derived.Lib.SmallJoins
import Derived.KernelRfl
namespace Go.Proofs.YtncplnobmiljfaaDoor.Hand
open Go.RowKit Go.Proofs.YtncplnobmiljfaaDoor.GB Go.Proofs.YtncplnobmiljfaaDoor.GC Go.Proofs.YtncplnobmiljfaaDoorW.PrintWords Go.Proofs.YtncplnobmiljfaaDoorW.PrintLast Go.Proofs.YtncplnobmiljfaaDoor.GP Go.Proofs.YtncplnobmiljfaaDoorW.PrintMore
set_option linter.unusedVariables false
set_option linter.unusedSimpArgs false

/-- Numbers as bytes, one behind the other. -/
def numsL : List Int → List Int
  | [] => []
  | n :: ns => beL n 4 ++ numsL ns
theorem numsL_append (a b : List Int) : numsL (a ++ b) = numsL a ++ numsL b := by
  induction a with
  | nil => rfl
  | cons x a ih => simp only [List.cons_append, numsL, ih, List.append_assoc]
theorem numsL_length (a : List Int) : (numsL a).length = 4 * a.length := by
  induction a with
  | nil => rfl
  | cons x a ih => simp only [numsL, List.length_append, List.length_cons, ih, beL_length]; omega

theorem cput_l0 (ns : List Int) (hn : ns.length ≤ 1000000) : ∀ (m k i : Nat) (acc : List Int), m = ns.length - i → i ≤ ns.length → m < k → acc.length + 4 * m < 140737488355328 → creds_put.l0 k acc ns (ns.length : Int) (i : Int) = some (acc ++ numsL (ns.drop i)) := by
  intro m
  induction m with
  | zero =>
    intro k i acc h1 h2 h3 h4
    obtain ⟨k, rfl⟩ : ∃ k', k = k' + 1 := ⟨k - 1, by omega⟩
    obtain rfl : i = ns.length := by omega
    rw [creds_put.l0, if_neg (by omega), List.drop_length]
    simp [numsL]
  | succ m ih =>
    intro k i acc h1 h2 h3 h4
    obtain ⟨k, rfl⟩ : ∃ k', k = k' + 1 := ⟨k - 1, by omega⟩
    have hi : i < ns.length := by omega
    rw [creds_put.l0, if_pos (by omega), if_pos (by omega), if_pos (by omega)]
    rw [show words_Put.f (rd ns (i : Int)) = some (beL (rd ns (i : Int)) 4) from rfl, Option.bind_some, rd_nat ns i hi]
    rw [if_pos (by rw [beL_length]; omega), wrap_in (by omega) (by omega)]
    rw [show ((i : Int) + 1) = ((i + 1 : Nat) : Int) by omega]
    rw [ih k (i + 1) _ (by omega) (by omega) (by omega) (by rw [List.length_append, beL_length]; omega)]
    rw [List.drop_eq_getElem_cons hi, numsL, List.append_assoc]
theorem cput_f (k : Nat) (acc ns : List Int) (hn : ns.length ≤ 1000000) (hk : ns.length < k) (h : acc.length + 4 * ns.length < 140737488355328) : creds_put.f k acc ns = some (acc ++ numsL ns) := by
  unfold creds_put.f
  have := cput_l0 ns hn ns.length k 0 acc (by omega) (by omega) hk h
  simpa using this

/-- Who calls, as bytes. -/
def credB (s : Int) (m : ByteArray) (u g : Int) (gs : List Int) : List Int := beL s 4 ++ (putL (bytesOf m) ++ (beL u 4 ++ (beL g 4 ++ (beL gs.length 4 ++ numsL gs))))
theorem padI_small (n : Nat) : (padI n).toNat ≤ 3 := by have := padI_range n; omega
theorem credB_length (s : Int) (m : ByteArray) (u g : Int) (gs : List Int) : (credB s m u g gs).length = 16 + (putL (bytesOf m)).length + 4 * gs.length := by
  unfold credB; simp only [List.length_append, beL_length, numsL_length]; omega
theorem cPut_ok (k : Nat) (s : Int) (m : ByteArray) (u g : Int) (gs : List Int) (hm : m.size ≤ 255) (hg : gs.length ≤ 16) (hk : 20 < k) : creds_Put.f (k + 1) s m u g gs = some (credB s m u g gs, 0) := by
  have hpl := putL_length (bytesOf m)
  have hps := padI_small (bytesOf m).length
  have hbm := bytesOf_length m
  unfold creds_Put.f
  rw [if_neg (by omega), creds_Put.j0, decide_eq_false (by omega), if_neg (by simp)]
  rw [cput_f k [] [s] (by simp) (by simp; omega) (by simp), Option.bind_some, sput_f m (by omega), Option.bind_some]
  rw [if_pos (by simp only [List.length_append, List.length_nil, numsL_length, List.length_cons]; omega)]
  rw [show ((gs.length : Int) % 4294967296) = (gs.length : Int) by omega]
  rw [cput_f k _ [u, g, (gs.length : Int)] (by simp) (by simp; omega) (by simp only [List.length_append, List.length_nil, numsL_length, List.length_cons]; omega), Option.bind_some]
  rw [cput_f k _ gs (by omega) (by omega) (by simp only [List.length_append, List.length_nil, numsL_length, List.length_cons]; omega), Option.bind_some]
  simp only [numsL, credB, List.nil_append, List.append_nil, List.append_assoc]
theorem cPut_no (k : Nat) (s : Int) (m : ByteArray) (u g : Int) (gs : List Int) (h : 255 < m.size ∨ 16 < gs.length) : creds_Put.f (k + 1) s m u g gs = some ([], 1) := by
  unfold creds_Put.f
  by_cases hm : (m.size : Int) > 255
  · rw [if_pos hm, creds_Put.j0, if_pos rfl]
  · rw [if_neg hm, creds_Put.j0, decide_eq_true (by omega), if_pos rfl]

/-! ### What is read is what stood there -/
theorem numG_inv {l l' : List Int} {e0 x : Int} (hb : byteOk l = true) (h : numG l e0 = (x, l', 0)) : e0 = 0 ∧ l = beL x 4 ++ l' := by
  unfold numG at h
  by_cases he : e0 = 0
  · rw [if_pos he] at h
    by_cases hl : l.length < 4
    · rw [if_pos hl] at h; simp at h
    · rw [if_neg hl] at h
      simp only [Prod.mk.injEq] at h
      obtain ⟨rfl, rfl, _⟩ := h
      refine ⟨he, ?_⟩
      rw [be4_de _ (by rw [List.length_take]; omega) (byteOk_take hb 4), List.take_append_drop]
  · rw [if_neg he] at h
    simp only [Prod.mk.injEq] at h
    exact absurd h.2.2 he
theorem strG_inv {l l' : List Int} {e0 : Int} {m : ByteArray} (hb : byteOk l = true) (h : strG l e0 = (m, l', 0)) : e0 = 0 ∧ l = putL (bytesOf m) ++ l' ∧ m.size ≤ 255 := by
  unfold strG at h
  by_cases he : e0 = 0
  · rw [if_pos he] at h
    refine ⟨he, ?_⟩
    unfold strings_Get.f at h
    rcases get_again l 255 hb with ⟨e, hne, hg⟩ | ⟨xs, n, hg, hn, hx, hp, hbx, hlx⟩
    · rw [hg] at h
      simp only [Option.map_some, Prod.mk.injEq] at h
      exact absurd h.2.2 hne
    · rw [hg] at h
      simp only [Option.map_some, Prod.mk.injEq, Int.toNat_natCast] at h
      obtain ⟨rfl, rfl, _⟩ := h
      rw [bytesOf_str xs hbx, hp, List.take_append_drop, strOfNums_size]
      exact ⟨rfl, by omega⟩
  · rw [if_neg he] at h
    simp only [Prod.mk.injEq] at h
    exact absurd h.2.2 he
theorem grpG_inv : ∀ (k : Nat) (gs l gs' l' : List Int) (e : Int), byteOk l = true → grpG k gs l e = (gs', l', 0) → e = 0 ∧ ∃ ns, gs' = gs ++ ns ∧ ns.length = k ∧ l = numsL ns ++ l'
  | 0, gs, l, gs', l', e, hb, h => by
    simp only [grpG, Prod.mk.injEq] at h
    obtain ⟨rfl, rfl, he⟩ := h
    exact ⟨he, [], by simp, rfl, rfl⟩
  | k + 1, gs, l, gs', l', e, hb, h => by
    rw [grpG] at h
    by_cases he : e = 0
    · rw [if_pos he] at h
      obtain ⟨h1, ns, h2, h3, h4⟩ := grpG_inv k _ _ _ _ _ (numG_ok hb e) h
      have hx : numG l e = ((numG l e).1, (numG l e).2.1, 0) := by rw [← h1]
      obtain ⟨_, h5⟩ := numG_inv hb hx
      refine ⟨he, (numG l e).1 :: ns, by rw [h2]; simp, by simp [h3], ?_⟩
      rw [numsL, List.append_assoc, ← h4]; exact h5
    · rw [if_neg he] at h
      simp only [Prod.mk.injEq] at h
      exact absurd h.2.2 he
theorem limG_inv {k e : Int} (h : limG k e = 0) : e = 0 ∧ k ≤ 16 := by
  refine ⟨?_, limG_zero h⟩
  unfold limG at h
  by_cases he : e = 0
  · exact he
  · rw [if_neg he] at h; exact h
theorem endG_inv {l : List Int} {e : Int} (h : endG l e = 0) : e = 0 ∧ l = [] := by
  unfold endG at h
  by_cases he : e = 0
  · rw [if_pos he] at h
    refine ⟨he, ?_⟩
    by_cases hl : 0 < l.length
    · rw [if_pos hl] at h; omega
    · exact List.eq_nil_of_length_eq_zero (by omega)
  · rw [if_neg he] at h; exact absurd h he
/-- Who is got of any bytes is nobody, or is put as these. -/
theorem cred_again (l : List Int) (hb : byteOk l = true) :
    (∃ e : Int, e ≠ 0 ∧ credG l = ⟨0, ByteArray.empty, 0, 0, [], e⟩) ∨
    (∃ s m u g gs, credG l = ⟨s, m, u, g, gs, 0⟩ ∧ l = credB s m u g gs ∧ m.size ≤ 255 ∧ gs.length ≤ 16) := by
  obtain ⟨a, ha⟩ : ∃ a, numG l 0 = a := ⟨_, rfl⟩
  obtain ⟨s, hs⟩ : ∃ s, strG a.2.1 a.2.2 = s := ⟨_, rfl⟩
  obtain ⟨u, hu⟩ : ∃ u, numG s.2.1 s.2.2 = u := ⟨_, rfl⟩
  obtain ⟨g, hg⟩ : ∃ g, numG u.2.1 u.2.2 = g := ⟨_, rfl⟩
  obtain ⟨k, hk⟩ : ∃ k, numG g.2.1 g.2.2 = k := ⟨_, rfl⟩
  obtain ⟨r, hr⟩ : ∃ r, grpG k.1.toNat [] k.2.1 (limG k.1 k.2.2) = r := ⟨_, rfl⟩
  have hR : credG l = (if endG r.2.1 r.2.2 = 0 then (⟨a.1, s.1, u.1, g.1, r.1, 0⟩ : CredR) else ⟨0, ByteArray.empty, 0, 0, [], endG r.2.1 r.2.2⟩) := by
    unfold credG; subst ha; subst hs; subst hu; subst hg; subst hk; subst hr; rfl
  rw [hR]
  by_cases hz : endG r.2.1 r.2.2 = 0
  · rw [if_pos hz]
    have oka : byteOk a.2.1 = true := ha ▸ numG_ok hb 0
    have oks : byteOk s.2.1 = true := hs ▸ strG_ok oka _
    have oku : byteOk u.2.1 = true := hu ▸ numG_ok oks _
    have okg : byteOk g.2.1 = true := hg ▸ numG_ok oku _
    have okk : byteOk k.2.1 = true := hk ▸ numG_ok okg _
    have rk := hk ▸ numG_range okg g.2.2
    obtain ⟨h1, h2⟩ := endG_inv hz
    obtain ⟨h3, ns, h4, h5, h6⟩ := grpG_inv k.1.toNat [] k.2.1 r.1 r.2.1 _ okk (by rw [hr, ← h1])
    obtain ⟨h7, h8⟩ := limG_inv h3
    obtain ⟨h9, h10⟩ := numG_inv okg (x := k.1) (l' := k.2.1) (by rw [hk, ← h7])
    obtain ⟨h11, h12⟩ := numG_inv oku (x := g.1) (l' := g.2.1) (by rw [hg, ← h9])
    obtain ⟨h13, h14⟩ := numG_inv oks (x := u.1) (l' := u.2.1) (by rw [hu, ← h11])
    obtain ⟨h15, h16, h17⟩ := strG_inv oka (m := s.1) (l' := s.2.1) (by rw [hs, ← h13])
    obtain ⟨_, h18⟩ := numG_inv hb (x := a.1) (l' := a.2.1) (by rw [ha, ← h15])
    refine .inr ⟨a.1, s.1, u.1, g.1, r.1, rfl, ?_, h17, ?_⟩
    · rw [h2, List.append_nil] at h6
      rw [List.nil_append] at h4
      rw [h18, h16, h14, h12, h10, h6, h4]
      unfold credB
      rw [show ((ns.length : Nat) : Int) = k.1 by have := rk.1; omega]
    · rw [h4]; simp; omega
  · rw [if_neg hz]; exact .inl ⟨_, hz, rfl⟩

/-! ### What stands there is read -/
theorem take_be (x : Int) (rest : List Int) (i : Nat) (h : 4 ≤ i) : (beL x 4 ++ rest).take i = beL x 4 ++ rest.take (i - 4) := by
  rw [List.take_append, beL_length, List.take_of_length_le (by rw [beL_length]; exact h)]
theorem numG_be (x : Int) (rest : List Int) (h0 : 0 ≤ x) (h1 : x < 4294967296) : numG (beL x 4 ++ rest) 0 = (x, rest, 0) := by
  have hd := List.drop_left (l₁ := beL x 4) (l₂ := rest)
  rw [beL_length] at hd
  unfold numG
  rw [if_pos rfl, if_neg (by simp [beL_length]), List.take_append_of_le_length (by rw [beL_length]; omega), List.take_of_length_le (by rw [beL_length]; omega), deB4 x h0 h1, hd]
theorem numG_low {l : List Int} (h : l.length < 4) : numG l 0 = (0, l, 4) := by
  unfold numG; rw [if_pos rfl, if_pos h]
theorem numG_err {e : Int} (l : List Int) (h : e ≠ 0) : numG l e = (0, l, e) := by unfold numG; rw [if_neg h]
theorem grpG_err {e : Int} (h : e ≠ 0) : ∀ (k : Nat) (gs l : List Int), grpG k gs l e = (gs, l, e)
  | 0, _, _ => rfl
  | k + 1, _, _ => by rw [grpG, if_neg h]
theorem strG_put (m : ByteArray) (rest : List Int) (h : m.size ≤ 255) : strG (putL (bytesOf m) ++ rest) 0 = (m, rest, 0) := by
  have hl := bytesOf_length m
  have hp := padI_range (bytesOf m).length
  have hpl := putL_length (bytesOf m)
  unfold strG
  rw [if_pos rfl]
  unfold strings_Get.f
  rw [get_put _ _ _ (by omega) (by omega), Option.map_some]
  dsimp only
  rw [str_bytesOf, show (4 + ((bytesOf m).length : Int) + padI (bytesOf m).length).toNat = (putL (bytesOf m)).length by omega, List.drop_left]
theorem strG_low (m : ByteArray) (i : Nat) (h : m.size ≤ 255) (hi : i < (putL (bytesOf m)).length) : ∃ s l', strG ((putL (bytesOf m)).take i) 0 = (s, l', 4) := by
  have hl := bytesOf_length m
  unfold strG
  rw [if_pos rfl]
  unfold strings_Get.f
  rw [get_put_cut _ _ _ (by omega) (by omega) hi, Option.map_some]
  exact ⟨_, _, rfl⟩
theorem grpG_nums : ∀ (ns gs rest : List Int), (∀ n ∈ ns, 0 ≤ n ∧ n < 4294967296) → grpG ns.length gs (numsL ns ++ rest) 0 = (gs ++ ns, rest, 0)
  | [], gs, rest, _ => by simp [grpG, numsL]
  | n :: ns, gs, rest, h => by
    have hn := h n (List.mem_cons_self ..)
    rw [List.length_cons, grpG, if_pos rfl, numsL, List.append_assoc, numG_be n _ hn.1 hn.2]
    dsimp only
    rw [grpG_nums ns _ rest (fun x hx => h x (List.mem_cons_of_mem _ hx)), List.append_assoc]
    rfl
theorem grpG_low : ∀ (ns gs : List Int) (i : Nat), (∀ n ∈ ns, 0 ≤ n ∧ n < 4294967296) → i < 4 * ns.length → ∃ gs' l', grpG ns.length gs ((numsL ns).take i) 0 = (gs', l', 4)
  | [], gs, i, _, h => absurd h (by simp)
  | n :: ns, gs, i, h, hi => by
    have hn := h n (List.mem_cons_self ..)
    rw [List.length_cons, grpG, if_pos rfl, numsL]
    by_cases h4 : i < 4
    · rw [numG_low (by rw [List.length_take]; omega)]
      dsimp only
      rw [grpG_err (by omega)]
      exact ⟨_, _, rfl⟩
    · rw [take_be n _ i (by omega), numG_be n _ hn.1 hn.2]
      dsimp only
      exact grpG_low ns _ (i - 4) (fun x hx => h x (List.mem_cons_of_mem _ hx)) (by rw [List.length_cons] at hi; omega)

theorem cred_read (s : Int) (m : ByteArray) (u g : Int) (gs rest : List Int) (hs : 0 ≤ s ∧ s < 4294967296) (hu : 0 ≤ u ∧ u < 4294967296) (hg : 0 ≤ g ∧ g < 4294967296) (hgs : ∀ n ∈ gs, 0 ≤ n ∧ n < 4294967296) (hm : m.size ≤ 255) (hl : gs.length ≤ 16) :
    credG (credB s m u g gs ++ rest) = if rest = [] then ⟨s, m, u, g, gs, 0⟩ else ⟨0, ByteArray.empty, 0, 0, [], 5⟩ := by
  unfold credG credB
  simp only [List.append_assoc]
  rw [numG_be s _ hs.1 hs.2]; dsimp only
  rw [strG_put m _ hm]; dsimp only
  rw [numG_be u _ hu.1 hu.2]; dsimp only
  rw [numG_be g _ hg.1 hg.2]; dsimp only
  rw [numG_be (gs.length : Int) _ (by omega) (by omega)]; dsimp only
  rw [show limG (gs.length : Int) 0 = 0 by unfold limG; rw [if_pos rfl, if_neg (by omega)], Int.toNat_natCast, grpG_nums gs [] rest hgs]
  dsimp only
  unfold endG
  rw [if_pos rfl]
  cases rest with
  | nil => simp
  | cons x xs => simp
theorem cred_many (s : Int) (m : ByteArray) (u g : Int) (gs : List Int) (hs : 0 ≤ s ∧ s < 4294967296) (hu : 0 ≤ u ∧ u < 4294967296) (hg : 0 ≤ g ∧ g < 4294967296) (hm : m.size ≤ 255) (hl : 16 < gs.length) (hl2 : gs.length < 4294967296) :
    credG (credB s m u g gs) = ⟨0, ByteArray.empty, 0, 0, [], 3⟩ := by
  unfold credG credB
  rw [numG_be s _ hs.1 hs.2]; dsimp only
  rw [strG_put m _ hm]; dsimp only
  rw [numG_be u _ hu.1 hu.2]; dsimp only
  rw [numG_be g _ hg.1 hg.2]; dsimp only
  rw [numG_be (gs.length : Int) _ (by omega) (by omega)]; dsimp only
  rw [show limG (gs.length : Int) 0 = 3 by unfold limG; rw [if_pos rfl, if_pos (by omega)], grpG_err (by omega)]
  rfl
theorem lim4 (k : Int) : limG k 4 = 4 := rfl
theorem end4 (l : List Int) : endG l 4 = 4 := rfl
theorem cred_cut (s : Int) (m : ByteArray) (u g : Int) (gs : List Int) (i : Nat) (hs : 0 ≤ s ∧ s < 4294967296) (hu : 0 ≤ u ∧ u < 4294967296) (hg : 0 ≤ g ∧ g < 4294967296) (hgs : ∀ n ∈ gs, 0 ≤ n ∧ n < 4294967296) (hm : m.size ≤ 255) (hl : gs.length ≤ 16) (hi : i < (credB s m u g gs).length) :
    (credG ((credB s m u g gs).take i)).e = 4 := by
  have n4 : ∀ l, numG l 4 = (0, l, 4) := fun l => numG_err l (by omega)
  have s4 : ∀ l, strG l 4 = (ByteArray.empty, l, 4) := fun l => strG_else (by omega)
  have g4 : ∀ k gs l, grpG k gs l 4 = (gs, l, 4) := fun k gs l => grpG_err (by omega) k gs l
  rw [credB_length] at hi
  have fin : ∀ (P : Prop) [Decidable P] (a b : CredR), ¬ P → b.e = 4 → (if P then a else b).e = 4 := fun P _ a b hp hb => by rw [if_neg hp]; exact hb
  unfold credG credB
  by_cases h1 : i < 4
  · rw [numG_low (by rw [List.length_take]; omega)]; dsimp only
    rw [s4]; dsimp only; rw [n4]; dsimp only; rw [n4]; dsimp only; rw [n4]; dsimp only; rw [lim4, g4]; dsimp only; rw [end4]; exact fin _ _ _ (by omega) rfl
  · rw [take_be s _ i (by omega), numG_be s _ hs.1 hs.2]; dsimp only
    by_cases h2 : i - 4 < (putL (bytesOf m)).length
    · rw [List.take_append_of_le_length (by omega)]
      obtain ⟨a, b, he⟩ := strG_low m (i - 4) hm h2
      rw [he]; dsimp only; rw [n4]; dsimp only; rw [n4]; dsimp only; rw [n4]; dsimp only; rw [lim4, g4]; dsimp only; rw [end4]; exact fin _ _ _ (by omega) rfl
    · rw [List.take_append, List.take_of_length_le (by omega), strG_put m _ hm]; dsimp only
      obtain ⟨j, hj⟩ : ∃ j, i - 4 - (putL (bytesOf m)).length = j := ⟨_, rfl⟩
      rw [hj]
      by_cases h3 : j < 4
      · rw [numG_low (by rw [List.length_take]; omega)]; dsimp only
        rw [n4]; dsimp only; rw [n4]; dsimp only; rw [lim4, g4]; dsimp only; rw [end4]; exact fin _ _ _ (by omega) rfl
      · rw [take_be u _ j (by omega), numG_be u _ hu.1 hu.2]; dsimp only
        by_cases h5 : j - 4 < 4
        · rw [numG_low (by rw [List.length_take]; omega)]; dsimp only
          rw [n4]; dsimp only; rw [lim4, g4]; dsimp only; rw [end4]; exact fin _ _ _ (by omega) rfl
        · rw [take_be g _ (j - 4) (by omega), numG_be g _ hg.1 hg.2]; dsimp only
          by_cases h6 : j - 4 - 4 < 4
          · rw [numG_low (by rw [List.length_take]; omega)]; dsimp only
            rw [lim4, g4]; dsimp only; rw [end4]; exact fin _ _ _ (by omega) rfl
          · rw [take_be (gs.length : Int) _ (j - 4 - 4) (by omega), numG_be (gs.length : Int) _ (by omega) (by omega)]; dsimp only
            rw [show limG (gs.length : Int) 0 = 0 by unfold limG; rw [if_pos rfl, if_neg (by omega)], Int.toNat_natCast]
            obtain ⟨a, b, he⟩ := grpG_low gs [] (j - 4 - 4 - 4) hgs (by omega)
            rw [he]; dsimp only; rw [end4]; exact fin _ _ _ (by omega) rfl
theorem credB_mod (s : Int) (m : ByteArray) (u g : Int) (gs : List Int) : (credB s m u g gs).length % 4 = 0 := by
  rw [credB_length]; have := putL_mod (bytesOf m); omega
theorem credB_most (s : Int) (m : ByteArray) (u g : Int) (gs : List Int) (hm : m.size ≤ 255) (hl : gs.length ≤ 16) : (credB s m u g gs).length ≤ 400 := by
  rw [credB_length, putL_length, bytesOf_length]; have := padI_nat m.size; omega
theorem byteOk_nums : ∀ ns : List Int, byteOk (numsL ns) = true
  | [] => rfl
  | n :: ns => byteOk_append (byteOk_be4 n) (byteOk_nums ns)
theorem byteOk_putL (xs : List Int) (h : byteOk xs = true) : byteOk (putL xs) = true := by
  unfold putL padded
  refine byteOk_append (byteOk_be4 _) (byteOk_append h ?_)
  unfold byteOk; rw [List.all_eq_true]; intro x hx; rw [List.eq_of_mem_replicate hx]; rfl
theorem byteOk_credB (s : Int) (m : ByteArray) (u g : Int) (gs : List Int) : byteOk (credB s m u g gs) = true :=
  byteOk_append (byteOk_be4 _) (byteOk_append (byteOk_putL _ (bytesOf_ok m)) (byteOk_append (byteOk_be4 _) (byteOk_append (byteOk_be4 _) (byteOk_append (byteOk_be4 _) (byteOk_nums gs)))))

theorem nums_l0 (xs : List Int) (hl : xs.length ≤ 1000000000) : ∀ (m k i : Nat), xs.length - i = m → i ≤ xs.length → m < k → wharfingerlaw01_SameNumbers.l0 k xs xs (i : Int) = some true := by
  intro m
  induction m with
  | zero =>
    intro k i h1 h2 h3
    obtain ⟨k, rfl⟩ : ∃ m, k = m + 1 := ⟨k - 1, by omega⟩
    rw [wharfingerlaw01_SameNumbers.l0, if_neg (by omega)]
  | succ m ih =>
    intro k i h1 h2 h3
    obtain ⟨k, rfl⟩ : ∃ m, k = m + 1 := ⟨k - 1, by omega⟩
    rw [wharfingerlaw01_SameNumbers.l0, if_pos (by omega), if_pos (by omega), if_pos (by omega), if_pos rfl, wrap_in (by omega) (by omega), show ((i : Int) + 1) = ((i + 1 : Nat) : Int) by omega]
    exact ih k (i + 1) (by omega) (by omega) (by omega)
theorem sameCred_self (k : Nat) (u g : Int) (gs : List Int) (hl : gs.length ≤ 1000000000) (hk : gs.length < k) : wharfingerlaw01_SameCred.f k u g gs u g gs = some true := by
  unfold wharfingerlaw01_SameCred.f wharfingerlaw01_SameNumbers.f
  rw [if_pos rfl, if_pos rfl, if_pos rfl]
  have := nums_l0 gs hl gs.length k 0 (by omega) (by omega) hk
  rw [show ((0 : Nat) : Int) = 0 from rfl] at this
  rw [this]
  rfl

/-! ### What the document's own Put answers -/
theorem r1put {x : Int} (h0 : 0 ≤ x) (h1 : x < 4294967296) : wharfingerref01_Put.f x = some (beL x 4) := by
  unfold wharfingerref01_Put.f; rw [if_pos ⟨h0, h1⟩]
theorem r3put {s : ByteArray} (h : s.size ≤ 1048580) : wharfingerref03_Put.f s = some (putL (bytesOf s)) := by
  unfold wharfingerref03_Put.f; rw [if_pos h]
theorem rput_l0 (u g : Int) (ns : List Int) (hn : ns.length ≤ 1000000) (hr : ∀ n ∈ ns, 0 ≤ n ∧ n < 4294967296) : ∀ (m k i : Nat) (acc : List Int), m = ns.length - i → i ≤ ns.length → m < k → acc.length + 4 * m < 140737488355328 → wharfingerref05_Put.l0 k acc (i : Int) u g ns = some (acc ++ numsL (ns.drop i), 0) := by
  intro m
  induction m with
  | zero =>
    intro k i acc h1 h2 h3 h4
    obtain ⟨k, rfl⟩ : ∃ k', k = k' + 1 := ⟨k - 1, by omega⟩
    obtain rfl : i = ns.length := by omega
    rw [wharfingerref05_Put.l0, if_neg (by omega), List.drop_length]
    simp [numsL]
  | succ m ih =>
    intro k i acc h1 h2 h3 h4
    obtain ⟨k, rfl⟩ : ∃ k', k = k' + 1 := ⟨k - 1, by omega⟩
    have hi : i < ns.length := by omega
    have hx := hr _ (List.getElem_mem hi)
    rw [wharfingerref05_Put.l0, if_pos (by omega), if_pos (by omega), rd_nat ns i hi, r1put hx.1 hx.2, Option.bind_some]
    rw [if_pos (by rw [beL_length]; omega), wrap_in (by omega) (by omega)]
    rw [show ((i : Int) + 1) = ((i + 1 : Nat) : Int) by omega]
    rw [ih k (i + 1) _ (by omega) (by omega) (by omega) (by rw [List.length_append, beL_length]; omega)]
    rw [List.drop_eq_getElem_cons hi, numsL, List.append_assoc]
theorem rPut_ok (k : Nat) (s : Int) (m : ByteArray) (u g : Int) (gs : List Int) (hs : 0 ≤ s ∧ s < 4294967296) (hu : 0 ≤ u ∧ u < 4294967296) (hg : 0 ≤ g ∧ g < 4294967296) (hgs : ∀ n ∈ gs, 0 ≤ n ∧ n < 4294967296) (hm : m.size ≤ 255) (hl : gs.length ≤ 16) (hk : 20 < k) : wharfingerref05_Put.f (k + 1) s m u g gs = some (credB s m u g gs, 0) := by
  have hpl := putL_length (bytesOf m)
  have hps := padI_small (bytesOf m).length
  have hbm := bytesOf_length m
  unfold wharfingerref05_Put.f
  rw [if_neg (by omega), wharfingerref05_Put.j0, decide_eq_false (by omega), if_neg (by simp)]
  rw [r1put hs.1 hs.2, Option.bind_some, r3put (by omega), Option.bind_some, if_pos (by rw [beL_length]; omega), Option.bind_some, r1put hu.1 hu.2, Option.bind_some]
  rw [if_pos (by rw [List.length_append, beL_length, beL_length]; omega), Option.bind_some, r1put hg.1 hg.2, Option.bind_some]
  rw [if_pos (by simp only [List.length_append, beL_length]; omega), Option.bind_some]
  rw [show ((gs.length : Int) % 4294967296) = (gs.length : Int) by omega, r1put (by omega) (by omega), Option.bind_some]
  rw [if_pos (by simp only [List.length_append, beL_length]; omega)]
  have := rput_l0 u g gs (by omega) hgs gs.length k 0 ((((beL s 4 ++ putL (bytesOf m)) ++ beL u 4) ++ beL g 4) ++ beL gs.length 4) (by omega) (by omega) (by omega) (by simp only [List.length_append, beL_length]; omega)
  rw [show ((0 : Nat) : Int) = 0 from rfl] at this
  rw [this, List.drop_zero]
  simp only [credB, List.append_assoc]
theorem rPut_no (k : Nat) (s : Int) (m : ByteArray) (u g : Int) (gs : List Int) (h : 255 < m.size ∨ 16 < gs.length) : wharfingerref05_Put.f (k + 1) s m u g gs = some ([], 1) := by
  unfold wharfingerref05_Put.f
  by_cases hm : (m.size : Int) > 255
  · rw [if_pos hm, wharfingerref05_Put.j0, if_pos rfl]
  · rw [if_neg hm, wharfingerref05_Put.j0, decide_eq_true (by omega), if_pos rfl]
/-- Both answer the same. -/
theorem put_both (s : Int) (m : ByteArray) (u g : Int) (gs : List Int) (hs : 0 ≤ s ∧ s < 4294967296) (hu : 0 ≤ u ∧ u < 4294967296) (hg : 0 ≤ g ∧ g < 4294967296) (hgs : ∀ n ∈ gs, 0 ≤ n ∧ n < 4294967296) :
    ∃ (x : List Int) (e : Int), creds_Put.f 31 s m u g gs = some (x, e) ∧ wharfingerref05_Put.f 31 s m u g gs = some (x, e) ∧ x.length ≤ 1000 := by
  by_cases h : 255 < m.size ∨ 16 < gs.length
  · exact ⟨_, _, cPut_no 30 s m u g gs h, rPut_no 30 s m u g gs h, Nat.zero_le _⟩
  · refine ⟨_, _, cPut_ok 30 s m u g gs (by omega) (by omega) (by omega), rPut_ok 30 s m u g gs hs hu hg hgs (by omega) (by omega) (by omega), ?_⟩
    have := credB_most s m u g gs (by omega) (by omega)
    omega

/-! ### What the document's own Get answers -/
def numsOf : Nat → List Int → List Int
  | 0, _ => []
  | n + 1, l => deB (l.take 4) :: numsOf n (l.drop 4)
theorem numsOf_length : ∀ (n : Nat) (l : List Int), (numsOf n l).length = n
  | 0, _ => rfl
  | n + 1, l => by rw [numsOf, List.length_cons, numsOf_length n]
theorem r1get {l : List Int} (h : byteOk l = true) : wharfingerref01_Get.f l = some (if l.length < 4 then 0 else deB (l.take 4), if l.length < 4 then 4 else 0) := by
  unfold wharfingerref01_Get.f words_Get.f; rw [if_pos (byteOk_take h 4)]
theorem rnum_l0 (l : List Int) (N : Nat) (hb : byteOk l = true) (hl : l.length ≤ 140737488351232) (hN : N ≤ 1000) : ∀ (n k i at_ : Nat) (acc : List Int), i + n = N → at_ ≤ l.length → n < k → acc.length = i → wharfingerref05_numbers.l0 k l (at_ : Int) (N : Int) acc (i : Int) = some (if (l.drop at_).length < 4 * n then ([], 0, 4) else (acc ++ numsOf n (l.drop at_), ((at_ + 4 * n : Nat) : Int), 0)) := by
  intro n
  induction n with
  | zero =>
    intro k i a acc h1 h2 h3 h4
    obtain ⟨k, rfl⟩ : ∃ k', k = k' + 1 := ⟨k - 1, by omega⟩
    rw [wharfingerref05_numbers.l0, if_neg (by omega), if_neg (by omega), numsOf, List.append_nil, Nat.mul_zero, Nat.add_zero]
  | succ n ih =>
    intro k i a acc h1 h2 h3 h4
    obtain ⟨k, rfl⟩ : ∃ k', k = k' + 1 := ⟨k - 1, by omega⟩
    rw [wharfingerref05_numbers.l0, if_pos (by omega), if_pos (by omega), if_pos (by omega), Int.toNat_natCast, r1get (byteOk_drop hb a), Option.bind_some]
    dsimp only
    by_cases h : (l.drop a).length < 4
    · rw [if_pos h, if_neg (by decide), if_pos (by omega)]
    · have hd : (l.drop a).length = l.length - a := List.length_drop ..
      rw [if_neg h, if_pos rfl, if_pos (by omega), if_neg h, wrap_in (by omega) (by omega), wrap_in (by omega) (by omega)]
      rw [show ((a : Int) + 4) = ((a + 4 : Nat) : Int) by omega, show ((i : Int) + 1) = ((i + 1 : Nat) : Int) by omega]
      rw [ih k (i + 1) (a + 4) _ (by omega) (by omega) (by omega) (by rw [List.length_append, h4]; rfl)]
      rw [show l.drop (a + 4) = (l.drop a).drop 4 by rw [List.drop_drop], List.length_drop]
      by_cases h5 : (l.drop a).length < 4 * (n + 1)
      · rw [if_pos h5, if_pos (by omega)]
      · rw [if_neg h5, if_neg (by omega), numsOf, List.append_assoc, show a + 4 + 4 * n = a + 4 * (n + 1) by omega]
        rfl
theorem rnum_f (k : Nat) (l : List Int) (a N : Nat) (hb : byteOk l = true) (hl : l.length ≤ 140737488351232) (hN : N ≤ 1000) (ha : a ≤ l.length) (hk : N < k) : wharfingerref05_numbers.f k l (a : Int) (N : Int) = some (if (l.drop a).length < 4 * N then ([], 0, 4) else (numsOf N (l.drop a), ((a + 4 * N : Nat) : Int), 0)) := by
  unfold wharfingerref05_numbers.f
  have := rnum_l0 l N hb hl hN N k 0 a [] (by omega) ha hk rfl
  rw [List.nil_append, show ((0 : Nat) : Int) = 0 from rfl] at this
  exact this
theorem numG_ge {l : List Int} (h : 4 ≤ l.length) : numG l 0 = (deB (l.take 4), l.drop 4, 0) := by
  unfold numG; rw [if_pos rfl, if_neg (by omega)]
theorem grpG_few : ∀ (n : Nat) (gs l : List Int), l.length < 4 * n → ∃ gs' l', grpG n gs l 0 = (gs', l', 4)
  | 0, gs, l, h => by omega
  | n + 1, gs, l, h => by
    rw [grpG, if_pos rfl]
    by_cases h4 : l.length < 4
    · rw [numG_low h4]; exact ⟨_, _, grpG_err (e := 4) (by decide) _ _ _⟩
    · rw [numG_ge (by omega)]; exact grpG_few n _ _ (by rw [List.length_drop]; omega)
theorem grpG_many : ∀ (n : Nat) (gs l : List Int), 4 * n ≤ l.length → grpG n gs l 0 = (gs ++ numsOf n l, l.drop (4 * n), 0)
  | 0, gs, l, h => by rw [grpG, numsOf, List.append_nil]; rfl
  | n + 1, gs, l, h => by
    rw [grpG, if_pos rfl, numG_ge (by omega)]
    rw [grpG_many n _ _ (by rw [List.length_drop]; omega), numsOf, List.append_assoc, List.drop_drop, show 4 + 4 * n = 4 * (n + 1) by omega]
    rfl
/-- The steps of the reader, given one by one. -/
theorem credG_of {l l1 l2 l3 l4 l5 l6 gs : List Int} {s u g k e1 e2 e3 e4 e5 e6 : Int} {m : ByteArray} (h1 : numG l 0 = (s, l1, e1)) (h2 : strG l1 e1 = (m, l2, e2)) (h3 : numG l2 e2 = (u, l3, e3)) (h4 : numG l3 e3 = (g, l4, e4)) (h5 : numG l4 e4 = (k, l5, e5)) (h6 : grpG k.toNat [] l5 (limG k e5) = (gs, l6, e6)) :
    credG l = if endG l6 e6 = 0 then ⟨s, m, u, g, gs, 0⟩ else ⟨0, ByteArray.empty, 0, 0, [], endG l6 e6⟩ := by
  unfold credG
  rw [h1]; dsimp only; rw [h2]; dsimp only; rw [h3]; dsimp only; rw [h4]; dsimp only; rw [h5]; dsimp only; rw [h6]
theorem end_err {l : List Int} {e : Int} (h : e ≠ 0) : endG l e = e := by unfold endG; rw [if_neg h]
theorem lim_err {k e : Int} (h : e ≠ 0) : limG k e = e := by unfold limG; rw [if_neg h]
theorem lim_grp {k e : Int} {l : List Int} (h : e ≠ 0) : grpG k.toNat [] l (limG k e) = ([], l, e) := by rw [lim_err h]; exact grpG_err h _ _ _
theorem lim_grp0 {q : Nat} {e : Int} {l : List Int} {r : List Int × List Int × Int} (h : limG q e = 0) (hg : grpG q [] l 0 = r) : grpG ((q : Int)).toNat [] l (limG q e) = r := by rw [h, Int.toNat_natCast]; exact hg
theorem lim_grp3 {q : Int} {l : List Int} (h : q > 16) : grpG q.toNat [] l (limG q 0) = ([], l, 3) := by rw [show limG q 0 = 3 by unfold limG; rw [if_pos rfl, if_pos h]]; exact grpG_err (by decide) _ _ _
theorem rGet_f (l : List Int) (hb : byteOk l = true) (hl : l.length ≤ 140737488351232) : wharfingerref05_Get.f 40 l = some ((credG l).s, (credG l).m, (credG l).u, (credG l).g, (credG l).gs, (credG l).e) := by
  unfold wharfingerref05_Get.f
  have hn1 : wharfingerref05_numbers.f 40 l 0 1 = _ := rnum_f 40 l 0 1 hb hl (by omega) (by omega) (by omega)
  rw [hn1, Option.bind_some, List.drop_zero]
  by_cases h1 : l.length < 4
  · rw [if_pos (show l.length < 4 * 1 by omega)]
    dsimp only
    have hc := credG_of (numG_low h1) (strG_else (e := 4) (by decide)) (numG_err (e := 4) _ (by decide)) (numG_err (e := 4) _ (by decide)) (numG_err (e := 4) _ (by decide)) (lim_grp (e := 4) (by decide))
    rw [end_err (by decide), if_neg (by decide)] at hc
    rw [if_neg (by decide), hc]
    rfl
  rw [if_neg (show ¬ l.length < 4 * 1 by omega)]
  dsimp only
  have a1 := numG_ge (l := l) (by omega)
  have hb1 : byteOk (l.drop 4) = true := byteOk_drop hb 4
  obtain ⟨m, n, e, hs, hn⟩ := sget_some hb1
  have a2 := strG_zero hs
  rw [List.length_drop] at hn
  rw [if_pos rfl, if_pos (by omega), if_pos (by omega), Int.toNat_natCast, show 0 + 4 * 1 = 4 from rfl]
  rw [show wharfingerref03_Get.f (l.drop 4) 255 = some (m, (n : Int), e) by unfold wharfingerref03_Get.f; rw [if_pos ⟨hb1, by rw [List.length_drop]; omega⟩]; exact hs, Option.bind_some]
  dsimp only
  by_cases he : e = 0
  case neg =>
    rw [if_neg he]
    have hc := credG_of a1 a2 (numG_err _ he) (numG_err _ he) (numG_err _ he) (lim_grp he)
    rw [end_err he, if_neg he] at hc
    rw [hc]
    rfl
  subst he
  have hn3 : wharfingerref05_numbers.f 40 l ((4 + n : Nat) : Int) 3 = _ := rnum_f 40 l (4 + n) 3 hb hl (by omega) (by omega) (by omega)
  rw [if_pos rfl, wrap_in (by omega) (by omega), show ((4 : Nat) : Int) + (n : Int) = ((4 + n : Nat) : Int) by omega, hn3, Option.bind_some]
  obtain ⟨y, hy⟩ : ∃ y, l.drop (4 + n) = y := ⟨_, rfl⟩
  have hyl : y.length = l.length - (4 + n) := by rw [← hy, List.length_drop]
  have hby : byteOk y = true := hy ▸ byteOk_drop hb _
  rw [List.drop_drop, hy] at a2
  rw [hy]
  by_cases h3 : y.length < 4 * 3
  · rw [if_pos h3]
    dsimp only
    rw [if_neg (by decide)]
    have hc : ∃ s m u g gs, credG l = if endG [] 4 = 0 then ⟨s, m, u, g, gs, 0⟩ else ⟨0, ByteArray.empty, 0, 0, [], 4⟩ := by
      by_cases q1 : y.length < 4
      · have hc := credG_of a1 a2 (numG_low q1) (numG_err (e := 4) _ (by decide)) (numG_err (e := 4) _ (by decide)) (lim_grp (e := 4) (by decide))
        exact ⟨_, _, _, _, _, hc⟩
      · have b1 := numG_ge (l := y) (by omega)
        by_cases q2 : y.length < 8
        · have hc := credG_of a1 a2 b1 (numG_low (by rw [List.length_drop]; omega)) (numG_err (e := 4) _ (by decide)) (lim_grp (e := 4) (by decide))
          exact ⟨_, _, _, _, _, hc⟩
        · have hc := credG_of a1 a2 b1 (numG_ge (by rw [List.length_drop]; omega)) (numG_low (by rw [List.length_drop, List.length_drop]; omega)) (lim_grp (e := 4) (by decide))
          exact ⟨_, _, _, _, _, hc⟩
    obtain ⟨_, _, _, _, _, hc⟩ := hc
    rw [if_neg (by decide)] at hc
    rw [hc]
    rfl
  rw [if_neg h3]
  dsimp only
  have b1 := numG_ge (l := y) (by omega)
  have b2 := numG_ge (l := y.drop 4) (by rw [List.length_drop]; omega)
  have b3 := numG_ge (l := (y.drop 4).drop 4) (by rw [List.length_drop, List.length_drop]; omega)
  rw [if_pos rfl, numsOf_length, if_pos (by decide)]
  rw [show rd (numsOf 3 y) 2 = deB (((y.drop 4).drop 4).take 4) from rfl, show rd (numsOf 3 y) 0 = deB (y.take 4) from rfl, show rd (numsOf 3 y) 1 = deB ((y.drop 4).take 4) from rfl]
  have hkr := deB_range 4 (((y.drop 4).drop 4).take 4) (by simp; omega) (byteOk_take (byteOk_drop (byteOk_drop hby 4) 4) 4)
  obtain ⟨q, hq⟩ : ∃ q : Nat, deB (((y.drop 4).drop 4).take 4) = q := ⟨(deB (((y.drop 4).drop 4).take 4)).toNat, by omega⟩
  rw [hq] at b3 hkr ⊢
  have hz : ((y.drop 4).drop 4).drop 4 = y.drop 12 := by rw [List.drop_drop, List.drop_drop]
  rw [hz] at b3
  by_cases h16 : (q : Int) > 16
  · rw [if_pos h16]
    have hc := credG_of a1 a2 b1 b2 b3 (lim_grp3 h16)
    rw [end_err (by decide), if_neg (by decide)] at hc
    rw [hc]
    rfl
  rw [if_neg h16, wrap_in (by omega) (by omega), rnum_f 40 l (4 + n + 4 * 3) q hb hl (by omega) (by omega) (by omega), Option.bind_some]
  have hl0 : limG q 0 = 0 := by unfold limG; rw [if_pos rfl, if_neg h16]
  have hyz : l.drop (4 + n + 4 * 3) = y.drop 12 := by rw [← hy, List.drop_drop]
  rw [hyz]
  by_cases h5 : (y.drop 12).length < 4 * q
  · rw [if_pos h5]
    dsimp only
    rw [if_neg (by decide)]
    obtain ⟨gs', l', hgr⟩ := grpG_few q [] (y.drop 12) h5
    have hc := credG_of a1 a2 b1 b2 b3 (lim_grp0 hl0 hgr)
    rw [end_err (by decide), if_neg (by decide)] at hc
    rw [hc]
    rfl
  rw [if_neg h5]
  dsimp only
  rw [if_pos rfl]
  have hgr := grpG_many q [] (y.drop 12) (by omega)
  have hc := credG_of a1 a2 b1 b2 b3 (lim_grp0 hl0 hgr)
  rw [List.nil_append] at hc
  have hdl : (y.drop 12).length = y.length - 12 := List.length_drop ..
  by_cases h6 : ((4 + n + 4 * 3 + 4 * q : Nat) : Int) < (l.length : Int)
  · rw [if_pos h6]
    have h7 : endG ((y.drop 12).drop (4 * q)) 0 = 5 := by unfold endG; rw [if_pos rfl, if_pos (by rw [List.length_drop]; omega)]
    rw [h7, if_neg (by decide)] at hc
    rw [hc]
    rfl
  · rw [if_neg h6]
    have h7 : endG ((y.drop 12).drop (4 * q)) 0 = 0 := by unfold endG; rw [if_pos rfl, if_neg (by rw [List.length_drop]; omega)]
    rw [h7, if_pos rfl] at hc
    rw [numsOf_length, if_pos (by decide), if_pos (by decide), if_pos (by decide), hc]
    rfl
theorem grpG_len {e : Int} : ∀ (n : Nat) (gs l : List Int) (e : Int), (grpG n gs l e).1.length ≤ gs.length + n
  | 0, gs, l, e => Nat.le_refl _
  | n + 1, gs, l, e => by
    rw [grpG]
    by_cases he : e = 0
    · rw [if_pos he]
      have := grpG_len (e := e) n (gs ++ [(numG l e).1]) (numG l e).2.1 (numG l e).2.2
      rw [List.length_append, List.length_singleton] at this
      omega
    · rw [if_neg he]; dsimp only; omega
theorem credG_len (l : List Int) : (credG l).gs.length ≤ 16 := by
  obtain ⟨s, l1, e1, h1⟩ : ∃ s l1 e1, numG l 0 = (s, l1, e1) := ⟨_, _, _, rfl⟩
  obtain ⟨m, l2, e2, h2⟩ : ∃ s l2 e2, strG l1 e1 = (s, l2, e2) := ⟨_, _, _, rfl⟩
  obtain ⟨u, l3, e3, h3⟩ : ∃ s l3 e3, numG l2 e2 = (s, l3, e3) := ⟨_, _, _, rfl⟩
  obtain ⟨g, l4, e4, h4⟩ : ∃ s l4 e4, numG l3 e3 = (s, l4, e4) := ⟨_, _, _, rfl⟩
  obtain ⟨k, l5, e5, h5⟩ : ∃ s l5 e5, numG l4 e4 = (s, l5, e5) := ⟨_, _, _, rfl⟩
  obtain ⟨gs, l6, e6, h6⟩ : ∃ s l6 e6, grpG k.toNat [] l5 (limG k e5) = (s, l6, e6) := ⟨_, _, _, rfl⟩
  have hgl : gs.length ≤ 16 := by
    by_cases hk : limG k e5 = 0
    · have h7 := limG_zero hk
      have h8 := grpG_len (e := 0) k.toNat [] l5 (limG k e5)
      rw [h6] at h8
      simp only [List.length_nil] at h8
      omega
    · rw [grpG_err hk] at h6
      simp only [Prod.mk.injEq] at h6
      rw [← h6.1]; exact Nat.zero_le _
  rw [credG_of h1 h2 h3 h4 h5 h6]
  by_cases he : endG l6 e6 = 0
  · rw [if_pos he]; exact hgl
  · rw [if_neg he]; exact Nat.zero_le _
theorem get_both (l : List Int) (hb : byteOk l = true) (hl : l.length ≤ 140737488351232) :
    ∃ (s : Int) (m : ByteArray) (u g : Int) (x : List Int) (e : Int), creds_Get.f l = some (s, m, u, g, x, e) ∧ wharfingerref05_Get.f 40 l = some (s, m, u, g, x, e) ∧ x.length ≤ 16 :=
  ⟨_, _, _, _, _, _, by unfold creds_Get.f; rw [if_pos hb], rGet_f l hb hl, credG_len l⟩

theorem front_ {k : IntKind} {w : World} {A : Option Addr} {l : List Int} {x : Int} (h : Kd.C (Kd.int k) w A (l ++ [x]).length (l ++ [x])) : Kd.C (Kd.int k) w A l.length l := by
  have := Kd.C_take h (m := l.length) (by rw [List.length_append]; omega)
  rwa [List.take_left] at this
/-- A copy of numbers with a mark behind it, as a book wants it. -/
theorem rowN_twin {w : World} {base B : Nat} {A : Option Addr} {c : Nat} {l : List Int} {x : Int} (h : Kd.R (Kd.int .u32) 26 w base (fun _ => True) (.slice A (l.length + 1) c) (l ++ [x])) (hB : B ≤ base) : w.ownsRow B 26 1 (.slice A l.length c) l.length (nums .u32 l) := by
  have h1 := Kd.own_of_R h
  rw [List.length_append, List.length_singleton] at h1
  have h2 := own_take (m := l.length) h1 (Nat.le_succ _)
  have hx : (encs (Value.int .u32) (l ++ [x])).take (l.length * 1) = nums .u32 l := by
    unfold encs nums
    rw [Nat.mul_one, List.map_append, List.take_left' (by rw [List.length_map])]
  rw [hx] at h2
  exact World.ownsRow.mono h2 hB
theorem rowN_of {w : World} {base B : Nat} {A : Option Addr} {c : Nat} {xs : List Int} (h : Kd.R (Kd.int .u32) 26 w base (fun _ => True) (.slice A xs.length c) xs) (hB : B ≤ base) : w.ownsRow B 26 1 (.slice A xs.length c) xs.length (nums .u32 xs) :=
  World.ownsRow.mono (Kd.own_of_R h) hB
theorem rowsN1 {B : Nat} {w : World} {A1 : Option Addr} {n1 c1 : Nat} {x1 : List Int} {k1 : Int} (h1 : w.ownsRow B 26 1 (.slice A1 n1 c1) n1 (nums .u32 x1)) :
    ∃ X, RwsNumber B w [ent A1 n1 c1 k1] X :=
  ⟨fun _ => x1, fun j hj => by
    match j, hj with
    | 0, _ => exact h1⟩
theorem rowsN2 {B : Nat} {w : World} {A1 A2 : Option Addr} {n1 n2 c1 c2 : Nat} {x1 x2 : List Int} {k1 k2 : Int} (h1 : w.ownsRow B 26 1 (.slice A1 n1 c1) n1 (nums .u32 x1)) (h2 : w.ownsRow B 26 1 (.slice A2 n2 c2) n2 (nums .u32 x2)) :
    ∃ X, RwsNumber B w [ent A1 n1 c1 k1, ent A2 n2 c2 k2] X :=
  ⟨fun j => if j = 0 then x1 else x2, fun j hj => by
    match j, hj with
    | 0, _ => exact h1
    | 1, _ => exact h2⟩
theorem rowsB1 {B : Nat} {w : World} {A1 : Option Addr} {n1 c1 : Nat} {x1 : List Int} {k1 : Int} (h1 : w.ownsRow B 5 1 (.slice A1 n1 c1) n1 (nums .u8 x1)) :
    ∃ X, RwsByte B w [ent A1 n1 c1 k1] X :=
  ⟨fun _ => x1, fun j hj => by
    match j, hj with
    | 0, _ => exact h1⟩
theorem farB1 (a : Ent) : FarByte [a] := fun i j hi hj hne => absurd (by simp at hi hj; omega) hne
theorem farN1 (a : Ent) : FarNumber [a] := fun i j hi hj hne => absurd (by simp at hi hj; omega) hne
theorem farN_of {es : List Ent} (h : FarByte es) : FarNumber es := h
theorem nb1 {A1 : Option Addr} {n1 c1 : Nat} {k1 : Int} (h1 : n1 ≤ 100000000) (a1 : 0 ≤ k1 ∧ k1 ≤ 100) :
    ∀ (j : Nat) (h : j < [ent A1 n1 c1 k1].length), 0 ≤ [ent A1 n1 c1 k1][j].n ∧ [ent A1 n1 c1 k1][j].n ≤ 100 ∧ [ent A1 n1 c1 k1][j].len ≤ 100000000 := fun j hj => by
  match j, hj with
  | 0, _ => exact ⟨a1.1, a1.2, h1⟩
theorem len_le1 (a : Ent) : [a].length ≤ 100 := Nat.le_of_ble_eq_true rfl
theorem lt01 (a : Ent) : 0 < [a].length := Nat.succ_pos _
theorem lit2_i64 (W : World) (x y : Int) : Kd.C (Kd.int .i64) (W.alloc (.cells #[.int .i64 x, .int .i64 y] 3)) (some ⟨W.heap.size, 0, none⟩) [x, y].length [x, y] :=
  lit_readsK .i64 3 W [x, y] #[.int .i64 x, .int .i64 y] (0, 0) rfl (by simp)
/-- What is carried through the law on one who calls. -/
structure DC (w0 w : World) (K : Nat) (u g : Int) (A : Option Addr) (c : Nat) (l : List Int) (A4 : Option Addr) (c4 : Nat) : Prop where
  b : Below w0.heap.size w0 w
  x : Cred3 w w0.heap.size u g (.slice A l.length c)
  y : Cred3 w K u g (.slice A4 l.length c4)
  r : Kd.C (Kd.int .u32) w A l.length l
  t : Kd.C (Kd.int .u32) w A4 (l ++ [77]).length (l ++ [77])
  o : w.ownsRow w0.heap.size 26 1 (.slice A4 l.length c4) l.length (nums .u32 l)
theorem DC.step {w0 w w1 : World} {K : Nat} {u g : Int} {A : Option Addr} {c : Nat} {l : List Int} {A4 : Option Addr} {c4 : Nat} (h : DC w0 w K u g A c l A4 c4) (hb : Below w.heap.size w w1) : DC w0 w1 K u g A c l A4 c4 :=
  ⟨below_then h.b h.b.size hb, h.x.below hb, h.y.below hb, Kd.C_below h.r hb, Kd.C_below h.t hb, pw_own_below h.o hb⟩
/-- A row of bytes that was answered. -/
structure DX (w0 w : World) (A : Option Addr) (c : Nat) (xs : List Int) : Prop where
  o : w.ownsRow w0.heap.size 5 1 (.slice A xs.length c) xs.length (nums .u8 xs)
  r : Kd.C (Kd.int .u8) w A xs.length xs
  c : xs.length ≤ c
theorem DX.step {w0 w w1 : World} {A : Option Addr} {c : Nat} {xs : List Int} (h : DX w0 w A c xs) (hb : Below w.heap.size w w1) : DX w0 w1 A c xs :=
  ⟨pw_own_below h.o hb, Kd.C_below h.r hb, h.c⟩
theorem DX.new {w0 w w1 : World} {A : Option Addr} {c : Nat} {xs : List Int} (h : OB w1 w.heap.size (.slice A xs.length c) xs) (hB : w0.heap.size ≤ w.heap.size) (hc : xs.length ≤ c) (hr : RB w1 A xs) : DX w0 w1 A c xs :=
  ⟨row_of h hB, hr, hc⟩
/-- One who calls that was answered, in a variable. -/
structure DV (w0 w : World) (K : Nat) (u g : Int) (A : Option Addr) (c : Nat) (xs : List Int) : Prop where
  y : Cred3 w K u g (.slice A xs.length c)
  o : w.ownsRow w0.heap.size 26 1 (.slice A xs.length c) xs.length (nums .u32 xs)
  r : Kd.C (Kd.int .u32) w A xs.length xs
  c : xs.length ≤ c
theorem DV.step {w0 w w1 : World} {K : Nat} {u g : Int} {A : Option Addr} {c : Nat} {xs : List Int} (h : DV w0 w K u g A c xs) (hb : Below w.heap.size w w1) : DV w0 w1 K u g A c xs :=
  ⟨h.y.below hb, pw_own_below h.o hb, Kd.C_below h.r hb, h.c⟩
theorem DV.new {w0 w w1 : World} {u g : Int} {A : Option Addr} {c : Nat} {xs : List Int} (h : Kd.R (Kd.int .u32) 26 w1 w.heap.size (fun _ => True) (.slice A xs.length c) xs) (hB : w0.heap.size ≤ w.heap.size) (hc : xs.length ≤ c) (hr : Kd.C (Kd.int .u32) w1 A xs.length xs) :
    DV w0 (w1.alloc (.cells #[.int .u32 u, .int .u32 g, .slice A xs.length c] 43)) w1.heap.size u g A c xs :=
  ⟨cred3_new w1 u g _, pw_own_below (rowN_of h hB) (below_alloc (Below.refl _ _) _), Kd.C_below hr (below_alloc (Below.refl _ _) _), hc⟩
/-- What is carried through the law on bytes. -/
structure DW (w0 w : World) (A : Option Addr) (l : List Int) (A4 : Option Addr) (c4 : Nat) : Prop where
  b : Below w0.heap.size w0 w
  r : Kd.C (Kd.int .u8) w A l.length l
  t : Kd.C (Kd.int .u8) w A4 (l ++ [77]).length (l ++ [77])
  o : w.ownsRow w0.heap.size 5 1 (.slice A4 l.length c4) l.length (nums .u8 l)
theorem DW.step {w0 w w1 : World} {A : Option Addr} {l : List Int} {A4 : Option Addr} {c4 : Nat} (h : DW w0 w A l A4 c4) (hb : Below w.heap.size w w1) : DW w0 w1 A l A4 c4 :=
  ⟨below_then h.b h.b.size hb, Kd.C_below h.r hb, Kd.C_below h.t hb, pw_own_below h.o hb⟩
/-- What a book's keeping writes. -/
def BKT (t : TypeId) : Prop := t = 37 ∨ t = 94 ∨ t = 97
theorem Cred3.kept {w w1 : World} {C : Nat} {u g : Int} {v : Value} (h : Cred3 w C u g v) (hk : TK BKT w w1) : Cred3 w1 C u g v :=
  (hk.block C _ _ _ h (by unfold BKT; decide)).trans h
set_option maxHeartbeats 1000000 in
theorem bytes_keep2 (w0 w : World) (K : Nat) (nn : Int) (mb mn : Nat) (bs ns : List Ent) (la : Option Addr) (len lc : Nat) (h : BookS w0 w K nn mb mn bs ns) (hm : mb < bs.length) (he : bs[mb] = ⟨la, len, lc, none, 0, 0, nn + 1⟩) (h0 : 0 ≤ nn) (h1 : nn ≤ 100) :
    Calls Tryd.prog 16 #[.pointer (some ⟨K, 0, none⟩), .slice la len lc] w fun e w' => e = .returned (.tuple #[]) ∧ BookS w0 w' K (nn + 1) (mb + 1) mn bs ns ∧ TK BKT w w' := by
  obtain ⟨vB, vN, k1, k2, k3⟩ := h.ex
  have hc := keepByte_calls w0.heap.size K nn vB vN mb bs la len lc w k1 k2 hm (by rw [he]) (by rw [he]) (by rw [he]) h0 h1 (by have := h.lb; omega) h.hK
  have H := Aside0.mk h
  have K3 := Aside0.mk k3
  clear h k1 k2 k3 he
  go_enter Tryd.func16, Tryd.ntmps16
  go_wp2_with fail
  refine hc.mono ?_
  clear hc
  rintro e w1 ⟨rfl, vX, a1, a2, a3, a4⟩
  obtain ⟨X, hX⟩ := H.out.rb
  obtain ⟨Y, hY⟩ := H.out.rn
  have HE := Aside0.mk (show BookS w0 w1 K (nn + 1) (mb + 1) mn bs ns from ⟨⟨vX, vN, a1, a2, a3.row K3.out (by decide)⟩, ⟨X, fun j hj => a3.row (hX j hj) (by decide)⟩, ⟨Y, fun j hj => a3.row (hY j hj) (by decide)⟩, H.out.fb, H.out.fn, H.out.nb, H.out.nu, H.out.lb, H.out.ln, H.out.bel.trans a4, H.out.hK⟩)
  have HF := Aside0.mk (show TK BKT w w1 from a3.mono (fun t ht => ht.elim .inl (fun h => .inr (.inl h))))
  clear a1 a2 a3 a4 hX hY
  go_wp2
  go_end0
  exact ⟨rfl, HE.out, HF.out⟩
set_option maxHeartbeats 1000000 in
theorem numbers_keep2 (w0 w : World) (K : Nat) (nn : Int) (mb mn : Nat) (bs ns : List Ent) (la : Option Addr) (len lc : Nat) (h : BookS w0 w K nn mb mn bs ns) (hm : mn < ns.length) (he : ns[mn] = ⟨la, len, lc, none, 0, 0, nn + 1⟩) (h0 : 0 ≤ nn) (h1 : nn ≤ 100) :
    Calls Tryd.prog 68 #[.pointer (some ⟨K, 0, none⟩), .slice la len lc] w fun e w' => e = .returned (.tuple #[]) ∧ BookS w0 w' K (nn + 1) mb (mn + 1) bs ns ∧ TK BKT w w' := by
  obtain ⟨vB, vN, k1, k2, k3⟩ := h.ex
  have hc := keepNumber_calls w0.heap.size K nn vB vN mn ns la len lc w k1 k3 hm (by rw [he]) (by rw [he]) (by rw [he]) h0 h1 (by have := h.ln; omega) h.hK
  have H := Aside0.mk h
  have K3 := Aside0.mk k2
  clear h k1 k2 k3 he
  go_enter Tryd.func68, Tryd.ntmps68
  go_wp2_with fail
  refine hc.mono ?_
  clear hc
  rintro e w1 ⟨rfl, vX, a1, a2, a3, a4⟩
  obtain ⟨X, hX⟩ := H.out.rb
  obtain ⟨Y, hY⟩ := H.out.rn
  have HE := Aside0.mk (show BookS w0 w1 K (nn + 1) mb (mn + 1) bs ns from ⟨⟨vB, vX, a1, a3.row K3.out (by decide), a2⟩, ⟨X, fun j hj => a3.row (hX j hj) (by decide)⟩, ⟨Y, fun j hj => a3.row (hY j hj) (by decide)⟩, H.out.fb, H.out.fn, H.out.nb, H.out.nu, H.out.lb, H.out.ln, H.out.bel.trans a4, H.out.hK⟩)
  have HF := Aside0.mk (show TK BKT w w1 from a3.mono (fun t ht => ht.elim .inl (fun h => .inr (.inr h))))
  clear a1 a2 a3 a4 hX hY
  go_wp2
  go_end0
  exact ⟨rfl, HE.out, HF.out⟩
set_option maxHeartbeats 1000000 in
theorem cred_keep2 (w0 w : World) (K : Nat) (nn : Int) (mb mn : Nat) (bs ns : List Ent) (u g : Int) (la : Option Addr) (len lc : Nat) (h : BookS w0 w K nn mb mn bs ns) (hm : mn < ns.length) (he : ns[mn] = ⟨la, len, lc, none, 0, 0, nn + 1⟩) (h0 : 0 ≤ nn) (h1 : nn ≤ 100) :
    Calls Tryd.prog 22 #[.pointer (some ⟨K, 0, none⟩), .agg #[.int .u32 u, .int .u32 g, .slice la len lc]] w fun e w' => e = .returned (.tuple #[]) ∧ BookS w0 w' K (nn + 1) mb (mn + 1) bs ns ∧ TK BKT w w' := by
  have hc := fun W (hW : BookS w0 W K nn mb mn bs ns) => numbers_keep2 w0 W K nn mb mn bs ns la len lc hW hm he h0 h1
  have HC := Aside0.mk hc
  have HT0 := Aside0.mk (TK.of_below (below_alloc (Below.refl _ _) (.cells #[.int .u32 u, .int .u32 g, .slice la len lc] 43) : Below w.heap.size w _) BKT)
  have H := Aside0.mk (h.step (below_alloc (Below.refl _ _) (.cells #[.int .u32 u, .int .u32 g, .slice la len lc] 43)))
  clear h he hc
  go_enter Tryd.func22, Tryd.ntmps22
  go_wp2_with fail
  refine (HC.out _ H.out).mono ?_
  rintro e w1 ⟨rfl, hs⟩
  have HE := Aside0.mk hs.1
  have HF := Aside0.mk (HT0.out.trans hs.2)
  clear hs
  go_wp2
  go_end0
  exact ⟨rfl, HE.out, HF.out⟩
set_option maxHeartbeats 8000000 in
set_option maxRecDepth 100000 in
theorem wharfingerlaw05_CredsPuts.calls (s : Int) (m : ByteArray) (u g : Int) (A : Option Addr) (c : Nat) (l : List Int) (w : World) (hR : Kd.C (Kd.int .u32) w A l.length l) (hc : l.length ≤ c) (hl : l.length ≤ 140737488351232) (hm : m.size ≤ 140737488351232)
    (hs : 0 ≤ s ∧ s < 4294967296) (hu : 0 ≤ u ∧ u < 4294967296) (hg : 0 ≤ g ∧ g < 4294967296) (hgs : ∀ n ∈ l, 0 ≤ n ∧ n < 4294967296) :
    Calls Tryd.prog 4 #[.int .u32 s, .string m, .agg #[.int .u32 u, .int .u32 g, .slice A l.length c]] w fun e w' => e = .returned (.bool true) ∧ Below w.heap.size w w' := by
  obtain ⟨wb, hwb⟩ : ∃ wb, w.alloc (.cells #[.int .u32 u, .int .u32 g, .slice A l.length c] 43) = wb := ⟨_, rfl⟩
  have hb0 : Below w.heap.size w wb := hwb ▸ below_alloc (Below.refl w.heap.size w) _
  have hx : Cred3 wb w.heap.size u g (.slice A l.length c) := hwb ▸ cred3_new w u g (.slice A l.length c)
  have x0 := hx.c0
  have x1 := hx.c1
  have x2 := hx.c2
  rw [← hwb] at x0 x1 x2
  have HW := Aside0.mk hwb
  have HB := Aside0.mk hb0
  have HX := Aside0.mk hx
  have HR := Aside0.mk (Kd.C_below hR hb0)
  have HC := Aside0.mk hc
  clear hR hwb hx hb0 hc
  have hlit : Kd.C (Kd.int .i64) (wb.alloc (.cells #[.int .i64 (m.size : Int), .int .i64 (l.length : Int)] 3)) (some ⟨w.heap.size + 1, 0, none⟩) [(m.size : Int), (l.length : Int)].length [(m.size : Int), (l.length : Int)] := by
    have h := lit2_i64 wb (m.size : Int) (l.length : Int)
    rwa [show wb.heap.size = w.heap.size + 1 by rw [← HW.out]; simp] at h
  have HLIT := Aside0.mk hlit
  clear hlit
  have HN0 := Aside0.mk (show ∀ x ∈ [(m.size : Int), (l.length : Int)], 0 ≤ x by simp)
  have HS0 := Aside0.mk (show [(m.size : Int), (l.length : Int)].sum < 4611686018427387904 by simp; omega)
  by_cases hbig : (m.size : Int) + l.length > 1048576
  · have HBY := Aside0.mk (show decide ([(m.size : Int), (l.length : Int)].sum > 1048576) = true by simpa using hbig)
    clear hbig
    go_enter Tryd.func4, Tryd.ntmps4
    go_wp2_with fail
    rw [HW.out]
    refine (beyond_calls [(m.size : Int), (l.length : Int)] true (some ⟨w.heap.size + 1, 0, none⟩) 2 (wb.alloc (.cells #[.int .i64 (m.size : Int), .int .i64 (l.length : Int)] 3)) HLIT.out (Nat.le_refl _) HN0.out (by simp) HS0.out HBY.out).mono ?_
    rintro e w2 ⟨rfl, ⟨nd, rfl⟩⟩
    go_wp2
    go_ret
    exact ⟨rfl, pw_below_drewN (below_alloc HB.out _) _⟩
  · have HBY := Aside0.mk (show decide ([(m.size : Int), (l.length : Int)].sum > 1048576) = false by simpa using hbig)
    have hl2 : l.length ≤ 1048576 := by omega
    have HLB := Aside0.mk (show l.length ≤ 100000000 by omega)
    obtain ⟨x, e0, hp, hq, hxl⟩ := put_both s m u g l hs hu hg hgs
    have HPF := Aside0.mk hp
    have HQF := Aside0.mk hq
    have HXL := Aside0.mk (show x.length ≤ 100000000 by omega)
    have HSX := Aside0.mk (same_self (x.length + 1) x (by have := HXL.out; omega) (by omega))
    have ce : (e0 != e0) = false := by simp
    clear hbig hl hm hp hq hxl hs hu hg hgs
    go_enter Tryd.func4, Tryd.ntmps4
    go_wp2_with fail
    rw [HW.out]
    refine (beyond_calls [(m.size : Int), (l.length : Int)] false (some ⟨w.heap.size + 1, 0, none⟩) 2 (wb.alloc (.cells #[.int .i64 (m.size : Int), .int .i64 (l.length : Int)] 3)) HLIT.out (Nat.le_refl _) HN0.out (by simp) HS0.out HBY.out).mono ?_
    rintro e w2 ⟨rfl, ⟨nd, rfl⟩⟩
    obtain ⟨w3, hw3⟩ : ∃ w3, (wb.alloc (.cells #[.int .i64 (m.size : Int), .int .i64 (l.length : Int)] 3)).drewN nd = w3 := ⟨_, rfl⟩
    have hb3 : Below wb.heap.size wb w3 := hw3 ▸ pw_below_drewN (below_alloc (Below.refl _ _) _) _
    have hX3 := HX.out.below hb3
    have x0 := hX3.c0
    have x1 := hX3.c1
    have x2 := hX3.c2
    have HX3 := Aside0.mk hX3
    have HB3 := Aside0.mk (below_then HB.out HB.out.size hb3)
    have HR3 := Aside0.mk (Kd.C_below HR.out hb3)
    rw [hw3]
    clear hX3 hb3 hw3 HX HB HR HW HLIT
    go_wp2_with fail
    refine (twinCred_calls u g A c l _ HR3.out HC.out (by omega)).mono ?_
    rintro e w4 ⟨A4, c4, rfl, hc4, ho4, hb4⟩
    have hX4 := HX3.out.below hb4
    have hB4 := below_then HB3.out HB3.out.size hb4
    have hR4 := Kd.C_below HR3.out hb4
    have hT4 : Kd.C (Kd.int .u32) w4 A4 (l ++ [77]).length (l ++ [77]) := (Kd.R_reads' ho4).2.2
    have hO4 := rowN_twin ho4 HB3.out.size
    have HC4 := Aside0.mk hc4
    have hb5 := below_alloc (Below.refl w4.heap.size w4) (.cells #[.int .u32 u, .int .u32 g, .slice A4 l.length c4] 43)
    obtain ⟨w5, hw5⟩ : ∃ w5, w4.alloc (.cells #[.int .u32 u, .int .u32 g, .slice A4 l.length c4] 43) = w5 := ⟨_, rfl⟩
    rw [hw5] at hb5
    have HD5 := Aside0.mk (show DC w w5 w4.heap.size u g A c l A4 c4 from ⟨below_then hB4 hB4.size hb5, hX4.below hb5, hw5 ▸ cred3_new w4 u g _, Kd.C_below hR4 hb5, Kd.C_below hT4 hb5, pw_own_below hO4 hb5⟩)
    have y0 := HD5.out.y.c0
    have y1 := HD5.out.y.c1
    have y2 := HD5.out.y.c2
    rw [← hw5] at y0 y1 y2
    have HW5 := Aside0.mk hw5
    clear hX4 hB4 hR4 hT4 hO4 hc4 hb4 ho4 hb5 hw5 HX3 HB3 HR3 x0 x1 x2
    go_wp2_with fail
    rw [HW5.out]
    refine (creds_Put.calls 31 s m u g A4 c4 l x e0 _ (front_ HD5.out.t) (Nat.le_of_lt HC4.out) HPF.out).mono ?_
    rintro e w6 ⟨v6, rfl, ho6, hb6⟩
    have hbb6 : Below w5.heap.size w5 w6 := hb6
    obtain ⟨A6, c6, rfl, hc6, hR6⟩ := OB_reads ho6
    have FT_6 := Aside0.mk (later_than HD5.out.o (Kd.own_of_R ho6) (Nat.le_refl _))
    have hx6 := DX.new (w0 := w) ho6 HD5.out.b.size hc6 hR6
    have HD6 := Aside0.mk (HD5.out.step hbb6)
    clear hbb6 HD5 hb6 ho6 hc6 hR6
    have HX6_6 := Aside0.mk hx6
    clear hx6
    clear y0 y1 y2 HW5
    have y00 := (HD6.out.y).c0
    have y01 := (HD6.out.y).c1
    have y02 := (HD6.out.y).c2
    go_wp2_with fail
    refine (creds_Put.calls 31 s m u g A4 c4 l x e0 _ (front_ HD6.out.t) (Nat.le_of_lt HC4.out) HPF.out).mono ?_
    rintro e w7 ⟨v7, rfl, ho7, hb7⟩
    have hbb7 : Below w6.heap.size w6 w7 := hb7
    obtain ⟨A7, c7, rfl, hc7, hR7⟩ := OB_reads ho7
    have F6_7 := Aside0.mk (later_than HX6_6.out.o (Kd.own_of_R ho7) (Nat.le_refl _))
    have FT_7 := Aside0.mk (later_than HD6.out.o (Kd.own_of_R ho7) (Nat.le_refl _))
    have hx7 := DX.new (w0 := w) ho7 HD6.out.b.size hc7 hR7
    have HD7 := Aside0.mk (HD6.out.step hbb7)
    have HX6_7 := Aside0.mk (HX6_6.out.step hbb7)
    clear hbb7 HD6 HX6_6 y00 y01 y02 hb7 ho7 hc7 hR7
    have HX7_7 := Aside0.mk hx7
    clear hx7
    have y00 := (HD7.out.x).c0
    have y01 := (HD7.out.x).c1
    have y02 := (HD7.out.x).c2
    go_wp2_with fail
    refine (wharfingerref05_Put.calls 31 s m u g A c l x e0 _ HD7.out.r HC.out HQF.out).mono ?_
    rintro e w8 ⟨v8, rfl, ho8, hb8⟩
    have hbb8 : Below w7.heap.size w7 w8 := hb8
    obtain ⟨A8, c8, rfl, hc8, hR8⟩ := OB_reads ho8
    have F6_8 := Aside0.mk (later_than HX6_7.out.o (Kd.own_of_R ho8) (Nat.le_refl _))
    have F7_8 := Aside0.mk (later_than HX7_7.out.o (Kd.own_of_R ho8) (Nat.le_refl _))
    have FT_8 := Aside0.mk (later_than HD7.out.o (Kd.own_of_R ho8) (Nat.le_refl _))
    have hx8 := DX.new (w0 := w) ho8 HD7.out.b.size hc8 hR8
    have HD8 := Aside0.mk (HD7.out.step hbb8)
    have HX6_8 := Aside0.mk (HX6_7.out.step hbb8)
    have HX7_8 := Aside0.mk (HX7_7.out.step hbb8)
    clear hbb8 HD7 HX6_7 HX7_7 y00 y01 y02 hb8 ho8 hc8 hR8
    have HX8_8 := Aside0.mk hx8
    clear hx8
    go_wp2_with fail
    refine (wharfingerlaw01_SameBytes.calls (x.length + 1) _ _ x _ _ x true _ HX6_8.out.r HX6_8.out.c HX8_8.out.r HX8_8.out.c HSX.out).mono ?_
    rintro e w9 ⟨rfl, ⟨hdr9⟩⟩
    have hbb9 : Below w8.heap.size w8 w9 := (Drawn0.below ⟨hdr9⟩)
    have HD9 := Aside0.mk (HD8.out.step hbb9)
    have HX6_9 := Aside0.mk (HX6_8.out.step hbb9)
    have HX7_9 := Aside0.mk (HX7_8.out.step hbb9)
    have HX8_9 := Aside0.mk (HX8_8.out.step hbb9)
    clear hbb9 HD8 HX6_8 HX7_8 HX8_8
    clear hdr9
    go_wp2_with fail
    refine (wharfingerlaw01_SameBytes.calls (x.length + 1) _ _ x _ _ x true _ HX7_9.out.r HX7_9.out.c HX8_9.out.r HX8_9.out.c HSX.out).mono ?_
    rintro e w10 ⟨rfl, ⟨hdr10⟩⟩
    have hbb10 : Below w9.heap.size w9 w10 := (Drawn0.below ⟨hdr10⟩)
    have HD10 := Aside0.mk (HD9.out.step hbb10)
    have HX6_10 := Aside0.mk (HX6_9.out.step hbb10)
    have HX7_10 := Aside0.mk (HX7_9.out.step hbb10)
    have HX8_10 := Aside0.mk (HX8_9.out.step hbb10)
    clear hbb10 HD9 HX6_9 HX7_9 HX8_9
    clear hdr10
    have y00 := (HD10.out.y).c0
    have y01 := (HD10.out.y).c1
    have y02 := (HD10.out.y).c2
    have y10 := (HD10.out.x).c0
    have y11 := (HD10.out.x).c1
    have y12 := (HD10.out.x).c2
    go_wp2_with fail
    refine (leftCred_calls u g A4 c4 A c l _ HD10.out.t HC4.out HD10.out.r HC.out (by omega)).mono ?_
    rintro e w11 ⟨rfl, hb11⟩
    have hbb11 : Below w10.heap.size w10 w11 := hb11
    have HD11 := Aside0.mk (HD10.out.step hbb11)
    have HX6_11 := Aside0.mk (HX6_10.out.step hbb11)
    have HX7_11 := Aside0.mk (HX7_10.out.step hbb11)
    have HX8_11 := Aside0.mk (HX8_10.out.step hbb11)
    clear hbb11 HD10 HX6_10 HX7_10 HX8_10 y00 y01 y02 y10 y11 y12 hb11
    have HBK := Aside0.mk (book_new (ns := [ent A4 l.length c4 1]) (bs := [ent A6 x.length c6 2, ent A7 x.length c7 3]) HD11.out.b (rows2 HX6_11.out.o HX7_11.out.o) (rowsN1 HD11.out.o) (far2 F6_7.out) (farN1 _) (nb2 HXL.out HXL.out (by decide) (by decide)) (nb1 HLB.out (by decide)) (len_le2 _ _) (len_le1 _))
    have hyb := HD11.out.y.below (below_alloc (Below.refl w11.heap.size w11) (.cells #[.int .i64 0, .slice none 0 0, .slice none 0 0, .slice none 0 0, .slice none 0 0, .slice none 0 0, .slice none 0 0, .slice none 0 0] 37))
    have y00 := hyb.c0
    have y01 := hyb.c1
    have y02 := hyb.c2
    clear hyb
    go_wp2_with fail
    refine (cred_keep w _ _ 0 0 0 _ _ u g A4 l.length c4 HBK.out (lt01 _) rfl (by decide) (by decide)).mono ?_
    rintro e wk0 ⟨rfl, hs0⟩
    have HS0_ := Aside0.mk hs0
    clear hs0 HBK y00 y01 y02
    go_wp2_with fail
    refine (bytes_keep w _ _ (0 + 1) 0 (0 + 1) _ _ A6 x.length c6 HS0_.out (lt02 _ _) rfl (by decide) (by decide)).mono ?_
    rintro e wk1 ⟨rfl, hs1⟩
    have HS1_ := Aside0.mk hs1
    clear hs1 HS0_
    go_wp2_with fail
    refine (bytes_keep w _ _ (0 + 1 + 1) 1 (0 + 1) _ _ A7 x.length c7 HS1_.out (lt12 _ _) rfl (by decide) (by decide)).mono ?_
    rintro e wk2 ⟨rfl, hs2⟩
    have HS2_ := Aside0.mk hs2
    clear hs2 HS1_
    go_wp2_with fail
    refine (apart_calls w _ _ _ [ent A6 x.length c6 2, ent A7 x.length c7 3] [ent A4 l.length c4 1] HS2_.out).mono ?_
    rintro e wz ⟨rfl, hbz⟩
    go_wp2
    go_ret
    exact ⟨rfl, hbz⟩
set_option maxHeartbeats 8000000 in
set_option maxRecDepth 100000 in
theorem wharfingerlaw05_CredsGets.calls (A : Option Addr) (c : Nat) (l : List Int) (w : World) (hR : Kd.C (Kd.int .u8) w A l.length l) (hc : l.length ≤ c) (hl : l.length ≤ 140737488351232) (hb : byteOk l = true) :
    Calls Tryd.prog 5 #[.slice A l.length c] w fun e w' => e = .returned (.bool true) ∧ Below w.heap.size w w' := by
  have HR := Aside0.mk hR
  have HC := Aside0.mk hc
  have HN0 := Aside0.mk (show ∀ x ∈ [(l.length : Int)], 0 ≤ x by simp)
  have HS0 := Aside0.mk (show [(l.length : Int)].sum < 4611686018427387904 by simp; omega)
  clear hR hc
  by_cases hbig : (l.length : Int) > 1048576
  · have HBY := Aside0.mk (show decide ([(l.length : Int)].sum > 1048576) = true by simpa using hbig)
    clear hbig
    go_enter Tryd.func5, Tryd.ntmps5
    go_wp2_with fail
    refine (beyond_calls [(l.length : Int)] true _ 1 _ (lit_readsK .i64 _ _ _ _ _ rfl (by simp)) (by simp) HN0.out (by simp) HS0.out HBY.out).mono ?_
    rintro e w2 ⟨rfl, ⟨nd, rfl⟩⟩
    go_wp2
    go_ret
    exact ⟨rfl, pw_below_drewN (below_alloc (Below.refl _ _) _) _⟩
  · have HBY := Aside0.mk (show decide ([(l.length : Int)].sum > 1048576) = false by simpa using hbig)
    have hl2 : l.length ≤ 1048576 := by omega
    have HLB := Aside0.mk (show l.length ≤ 100000000 by omega)
    obtain ⟨s, m, u, g, x, e0, hp, hq, hxl⟩ := get_both l hb (by omega)
    have HPF := Aside0.mk hp
    have HQF := Aside0.mk hq
    have HXL := Aside0.mk (show x.length ≤ 100000000 by omega)
    have HSX := Aside0.mk (sameCred_self (x.length + 1) u g x (by omega) (by omega))
    have cs : (s != s) = false := by simp
    have cm : (m.data != m.data) = false := by simp
    have cm2 : decide (m = m) = true := by simp
    have ce : (e0 != e0) = false := by simp
    clear hbig hl hp hq hxl hb
    go_enter Tryd.func5, Tryd.ntmps5
    go_wp2_with fail
    refine (beyond_calls [(l.length : Int)] false _ 1 _ (lit_readsK .i64 _ _ _ _ _ rfl (by simp)) (by simp) HN0.out (by simp) HS0.out HBY.out).mono ?_
    rintro e w2 ⟨rfl, ⟨nd, rfl⟩⟩
    have hb2 : Below w.heap.size w ((w.alloc (.cells (nums .i64 [(l.length : Int)]).toArray 3)).drewN nd) := pw_below_drewN (below_alloc (Below.refl _ _) _) _
    obtain ⟨w3, hw3⟩ : ∃ w3, (w.alloc (.cells (nums .i64 [(l.length : Int)]).toArray 3)).drewN nd = w3 := ⟨_, rfl⟩
    rw [hw3] at hb2
    have HB2 := Aside0.mk hb2
    have HR2 := Aside0.mk (Kd.C_below HR.out hb2)
    rw [hw3]
    clear hb2 hw3
    go_wp2_with fail
    refine (twinBytes_calls A c l _ HR2.out HC.out (by omega)).mono ?_
    rintro e w4 ⟨A4, c4, rfl, hc4, ho4, hb4⟩
    have HB4 := Aside0.mk (below_then HB2.out HB2.out.size hb4)
    have HR4 := Aside0.mk (Kd.C_below HR2.out hb4)
    have HT4 := Aside0.mk (show Kd.C (Kd.int .u8) w4 A4 (l ++ [77]).length (l ++ [77]) from (Kd.R_reads' ho4).2.2)
    have HC4 := Aside0.mk hc4
    have HO4 := Aside0.mk (row_twin ho4 HB2.out.size)
    clear ho4 hb4 HR2 HB2 hc4
    have HD4 := Aside0.mk (show DW w w4 A l A4 c4 from ⟨HB4.out, HR4.out, HT4.out, HO4.out⟩)
    clear HB4 HR4 HT4 HO4
    go_wp2_with fail
    refine (creds_Get.calls A4 c4 l s m u g x e0 _ (front_ HD4.out.t) (Nat.le_of_lt HC4.out) HPF.out).mono ?_
    rintro e w5 ⟨v5, rfl, ho5, hb5⟩
    have hbb5 : Below w4.heap.size w4 w5 := hb5
    obtain ⟨A5, c5, rfl, hc5, hR5⟩ := Kd.R_reads ho5
    have FT_5 := Aside0.mk (later_than HD4.out.o (Kd.own_of_R ho5) (Nat.le_refl _))
    have hx5 := DV.new (w0 := w) (u := u) (g := g) ho5 HD4.out.b.size hc5 hR5
    have HD5 := Aside0.mk (HD4.out.step hbb5)
    clear hbb5 HD4 hb5 ho5 hc5 hR5
    have hbb6 := below_alloc (Below.refl w5.heap.size w5) (.cells #[.int .u32 u, .int .u32 g, .slice A5 x.length c5] 43)
    obtain ⟨w6, hw6⟩ : ∃ w6, w5.alloc (.cells #[.int .u32 u, .int .u32 g, .slice A5 x.length c5] 43) = w6 := ⟨_, rfl⟩
    rw [hw6] at hbb6 hx5
    have HX5_6 := Aside0.mk hx5
    have HW6 := Aside0.mk hw6
    have HD6 := Aside0.mk (HD5.out.step hbb6)
    clear hbb6 HD5 hx5 hw6
    go_wp2_with fail
    rw [HW6.out]
    refine (creds_Get.calls A4 c4 l s m u g x e0 _ (front_ HD6.out.t) (Nat.le_of_lt HC4.out) HPF.out).mono ?_
    rintro e w7 ⟨v7, rfl, ho7, hb7⟩
    have hbb7 : Below w6.heap.size w6 w7 := hb7
    obtain ⟨A7, c7, rfl, hc7, hR7⟩ := Kd.R_reads ho7
    have F5_7 := Aside0.mk (later_than HX5_6.out.o (Kd.own_of_R ho7) (Nat.le_refl _))
    have FT_7 := Aside0.mk (later_than HD6.out.o (Kd.own_of_R ho7) (Nat.le_refl _))
    have hx7 := DV.new (w0 := w) (u := u) (g := g) ho7 HD6.out.b.size hc7 hR7
    have HD7 := Aside0.mk (HD6.out.step hbb7)
    have HX5_7 := Aside0.mk (HX5_6.out.step hbb7)
    clear hbb7 HD6 HX5_6 hb7 ho7 hc7 hR7
    have hbb8 := below_alloc (Below.refl w7.heap.size w7) (.cells #[.int .u32 u, .int .u32 g, .slice A7 x.length c7] 43)
    obtain ⟨w8, hw8⟩ : ∃ w8, w7.alloc (.cells #[.int .u32 u, .int .u32 g, .slice A7 x.length c7] 43) = w8 := ⟨_, rfl⟩
    rw [hw8] at hbb8 hx7
    have HX7_8 := Aside0.mk hx7
    have HW8 := Aside0.mk hw8
    have HD8 := Aside0.mk (HD7.out.step hbb8)
    have HX5_8 := Aside0.mk (HX5_7.out.step hbb8)
    clear hbb8 HD7 HX5_7 hx7 hw8
    go_wp2_with fail
    rw [HW8.out]
    refine (wharfingerref05_Get.calls 40 A c l s m u g x e0 _ HD8.out.r HC.out HQF.out).mono ?_
    rintro e w9 ⟨v9, rfl, ho9, hb9⟩
    have hbb9 : Below w8.heap.size w8 w9 := hb9
    obtain ⟨A9, c9, rfl, hc9, hR9⟩ := Kd.R_reads ho9
    have F5_9 := Aside0.mk (later_than HX5_8.out.o (Kd.own_of_R ho9) (Nat.le_refl _))
    have F7_9 := Aside0.mk (later_than HX7_8.out.o (Kd.own_of_R ho9) (Nat.le_refl _))
    have FT_9 := Aside0.mk (later_than HD8.out.o (Kd.own_of_R ho9) (Nat.le_refl _))
    have hx9 := DV.new (w0 := w) (u := u) (g := g) ho9 HD8.out.b.size hc9 hR9
    have HD9 := Aside0.mk (HD8.out.step hbb9)
    have HX5_9 := Aside0.mk (HX5_8.out.step hbb9)
    have HX7_9 := Aside0.mk (HX7_8.out.step hbb9)
    clear hbb9 HD8 HX5_8 HX7_8 hb9 ho9 hc9 hR9
    have hbb10 := below_alloc (Below.refl w9.heap.size w9) (.cells #[.int .u32 u, .int .u32 g, .slice A9 x.length c9] 43)
    obtain ⟨w10, hw10⟩ : ∃ w10, w9.alloc (.cells #[.int .u32 u, .int .u32 g, .slice A9 x.length c9] 43) = w10 := ⟨_, rfl⟩
    rw [hw10] at hbb10 hx9
    have HX9_10 := Aside0.mk hx9
    have HW10 := Aside0.mk hw10
    have HD10 := Aside0.mk (HD9.out.step hbb10)
    have HX5_10 := Aside0.mk (HX5_9.out.step hbb10)
    have HX7_10 := Aside0.mk (HX7_9.out.step hbb10)
    clear hbb10 HD9 HX5_9 HX7_9 hx9 hw10
    have y00 := HX5_10.out.y.c0
    have y01 := HX5_10.out.y.c1
    have y02 := HX5_10.out.y.c2
    have y10 := HX9_10.out.y.c0
    have y11 := HX9_10.out.y.c1
    have y12 := HX9_10.out.y.c2
    rw [← HW10.out] at y00 y01 y02 y10 y11 y12
    go_wp2_with fail
    rw [HW10.out]
    refine (wharfingerlaw01_SameCred.calls (x.length + 1) u g _ _ x u g _ _ x true _ HX5_10.out.r HX5_10.out.c HX9_10.out.r HX9_10.out.c HSX.out).mono ?_
    rintro e w11 ⟨rfl, hb11⟩
    have hbb11 : Below w10.heap.size w10 w11 := hb11
    have HD11 := Aside0.mk (HD10.out.step hbb11)
    have HX5_11 := Aside0.mk (HX5_10.out.step hbb11)
    have HX7_11 := Aside0.mk (HX7_10.out.step hbb11)
    have HX9_11 := Aside0.mk (HX9_10.out.step hbb11)
    clear hbb11 HD10 HX5_10 HX7_10 HX9_10 hb11
    clear y00 y01 y02 y10 y11 y12
    have y00 := (HX7_11.out.y).c0
    have y01 := (HX7_11.out.y).c1
    have y02 := (HX7_11.out.y).c2
    have y10 := (HX9_11.out.y).c0
    have y11 := (HX9_11.out.y).c1
    have y12 := (HX9_11.out.y).c2
    go_wp2_with fail
    refine (wharfingerlaw01_SameCred.calls (x.length + 1) u g _ _ x u g _ _ x true _ HX7_11.out.r HX7_11.out.c HX9_11.out.r HX9_11.out.c HSX.out).mono ?_
    rintro e w12 ⟨rfl, hb12⟩
    have hbb12 : Below w11.heap.size w11 w12 := hb12
    have HD12 := Aside0.mk (HD11.out.step hbb12)
    have HX5_12 := Aside0.mk (HX5_11.out.step hbb12)
    have HX7_12 := Aside0.mk (HX7_11.out.step hbb12)
    have HX9_12 := Aside0.mk (HX9_11.out.step hbb12)
    clear hbb12 HD11 HX5_11 HX7_11 HX9_11 y00 y01 y02 y10 y11 y12 hb12
    go_wp2_with fail
    refine (leftBytes_calls A4 c4 A c l _ HD12.out.t HC4.out HD12.out.r HC.out (by omega)).mono ?_
    rintro e w13 ⟨rfl, ⟨hdr13⟩⟩
    have hbb13 : Below w12.heap.size w12 w13 := (Drawn0.below ⟨hdr13⟩)
    have HD13 := Aside0.mk (HD12.out.step hbb13)
    have HX5_13 := Aside0.mk (HX5_12.out.step hbb13)
    have HX7_13 := Aside0.mk (HX7_12.out.step hbb13)
    have HX9_13 := Aside0.mk (HX9_12.out.step hbb13)
    clear hbb13 HD12 HX5_12 HX7_12 HX9_12
    clear hdr13
    have HBK := Aside0.mk (book_new (ns := [ent A5 x.length c5 2, ent A7 x.length c7 3]) (bs := [ent A4 l.length c4 1]) HD13.out.b (rowsB1 HD13.out.o) (rowsN2 HX5_13.out.o HX7_13.out.o) (farB1 _) (farN_of (far2 F5_7.out)) (nb1 HLB.out (by decide)) (nb2 HXL.out HXL.out (by decide) (by decide)) (len_le1 _) (len_le2 _ _))
    have HYA := Aside0.mk (HX5_13.out.y.below (below_alloc (Below.refl w13.heap.size w13) (.cells #[.int .i64 0, .slice none 0 0, .slice none 0 0, .slice none 0 0, .slice none 0 0, .slice none 0 0, .slice none 0 0, .slice none 0 0] 37)))
    have HYB := Aside0.mk (HX7_13.out.y.below (below_alloc (Below.refl w13.heap.size w13) (.cells #[.int .i64 0, .slice none 0 0, .slice none 0 0, .slice none 0 0, .slice none 0 0, .slice none 0 0, .slice none 0 0, .slice none 0 0] 37)))
    go_wp2_with fail
    refine (bytes_keep2 w _ _ 0 0 0 _ _ A4 l.length c4 HBK.out (lt01 _) rfl (by decide) (by decide)).mono ?_
    rintro e wk0 ⟨rfl, hs0⟩
    have HS0_ := Aside0.mk hs0.1
    have HYA0 := Aside0.mk (HYA.out.kept hs0.2)
    have HYB0 := Aside0.mk (HYB.out.kept hs0.2)
    clear hs0 HBK HYA HYB
    have y00 := HYA0.out.c0
    have y01 := HYA0.out.c1
    have y02 := HYA0.out.c2
    go_wp2_with fail
    refine (cred_keep2 w _ _ (0 + 1) (0 + 1) 0 _ _ u g A5 x.length c5 HS0_.out (lt02 _ _) rfl (by decide) (by decide)).mono ?_
    rintro e wk1 ⟨rfl, hs1⟩
    have HS1_ := Aside0.mk hs1.1
    have HYB1 := Aside0.mk (HYB0.out.kept hs1.2)
    clear hs1 HS0_ HYA0 HYB0 y00 y01 y02
    have y00 := HYB1.out.c0
    have y01 := HYB1.out.c1
    have y02 := HYB1.out.c2
    go_wp2_with fail
    refine (cred_keep2 w _ _ (0 + 1 + 1) (0 + 1) 1 _ _ u g A7 x.length c7 HS1_.out (lt12 _ _) rfl (by decide) (by decide)).mono ?_
    rintro e wk2 ⟨rfl, hs2⟩
    have HS2_ := Aside0.mk hs2.1
    clear hs2 HS1_ HYB1 y00 y01 y02
    go_wp2_with fail
    refine (apart_calls w _ _ _ [ent A4 l.length c4 1] [ent A5 x.length c5 2, ent A7 x.length c7 3] HS2_.out).mono ?_
    rintro e wz ⟨rfl, hbz⟩
    go_wp2
    go_ret
    exact ⟨rfl, hbz⟩

set_option maxRecDepth 100000 in
/-- Whatever reads as somebody who calls. -/
theorem open_cred {H : Type} {enc : TypeId × Value → H} {W : World} {b0 : Nat} {v : Value} {d : DataW H} {p : List MemPlace} (hv : Value.okWide Tryd.prog W .any b0 43 v)
    (h : DataW.Trod enc Tryd.prog W 0 (fun _ => true) true 43 v d p) (hw : ∀ n ∈ d.weights Tryd.prog 43, n ≤ reachBytes) :
    ∃ (u g : Int) (A : Option Addr) (c : Nat) (gs : List Int), v = .agg #[.int .u32 u, .int .u32 g, .slice A gs.length c] ∧ (Lit.int .u32 u).wf = true ∧ (Lit.int .u32 g).wf = true ∧ gs.length ≤ c ∧ Kd.C (Kd.int .u32) W A gs.length gs ∧ (∀ n ∈ gs, (Lit.int .u32 n).wf = true) ∧ gs.length ≤ 140737488351232 := by
  obtain ⟨v0, v1, v2, y0, y1, y2, n, rfl, rfl, rfl, h0, h1, h2⟩ := Go.Joins.open_agg3 Tryd.underlying43 (by kernel_rfl) (by kernel_rfl) hv h
  obtain ⟨u, hu, hu1⟩ := opens_int (P := Tryd.prog) (t := 26) Tryd.underlying26 H enc W 0 true n _ _ h0 (fun q hq => hw q (by
    simp only [DataW.weights, Tryd.underlying43]
    simp only [List.map_toArray, List.map_cons, List.map_nil, DataW.weightsEach, List.mem_append]
    exact .inl hq))
  obtain ⟨g, hg, hg1⟩ := opens_int (P := Tryd.prog) (t := 26) Tryd.underlying26 H enc W 0 true n _ _ h1 (fun q hq => hw q (by
    simp only [DataW.weights, Tryd.underlying43]
    simp only [List.map_toArray, List.map_cons, List.map_nil, DataW.weightsEach, List.mem_append]
    exact .inr (.inl hq)))
  obtain ⟨gs, ⟨A, c, hcs, hc, hC⟩, hm, hs, hok⟩ := opens_slice (P := Tryd.prog) (t := 41) Tryd.underlying41 (d := Kd.int .u32) (by kernel_rfl) rfl (opens_int (P := Tryd.prog) (t := 26) Tryd.underlying26) H enc W 0 true n _ _ h2 (fun q hq => hw q (by
    simp only [DataW.weights, Tryd.underlying43]
    simp only [List.map_toArray, List.map_cons, List.map_nil, DataW.weightsEach, List.mem_append]
    exact .inr (.inr (.inl hq))))
  have e0 : v0 = .int .u32 u := by have := (show [v0] = [Value.int .u32 u] from hu); simpa using this
  have e1 : v1 = .int .u32 g := by have := (show [v1] = [Value.int .u32 g] from hg); simpa using this
  have e2 : v2 = .slice A gs.length c := by simpa using hcs
  subst e0 e1 e2
  rw [show Tryd.prog.bytesOf 26 = 4 by kernel_rfl] at hs
  exact ⟨u, g, A, c, gs, rfl, hu1, hg1, hc, hC, hok, by omega⟩
end Go.Proofs.YtncplnobmiljfaaDoor.Hand
