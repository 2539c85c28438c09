import Derived.Test.YtnkeijebkpjdgaaMLookKeeps23
import Derived.Test.YtnkeijebkpjdgaaMLookKeeps16
import Derived.Test.YtnkeijebkpjdgaaMLookKeeps19
import Derived.Test.YtnkeijebkpjdgaaMLookKeeps24
import Derived.Test.YtnkeijebkpjdgaaMLookKeeps25
import Derived.Test.YtnkeijebkpjdgaaMLookKeeps28
import Derived.Test.YtnkeijebkpjdgaaMLookKeeps15
import Derived.Test.YtnkeijebkpjdgaaMLookKeeps22
set_option linter.unusedVariables false
set_option linter.unusedSimpArgs false
/- Over the engine: a node that is turned to one that may be. -/
namespace Go.Proofs.Ytnkeijebkpjdgaa.Ab
open Go Go.RowKit

/-- A node turned in what may turn. -/
structure Turned (x x' : NodeS) : Prop where
  kind : x'.kind = x.kind
  gen : x'.gen = x.gen
  links : x'.links = x.links
  ents : x'.ents = x.ents
  parent : x'.parent = x.parent
  next : x'.next = x.next
  mode : decide (x'.mode > 4095) = false
  rn : decide (x'.rn < 1000000000) = true
  wn : decide (x'.wn < 1000000000) = true
  tn : decide (x'.tn < 1000000000) = true
theorem nodeBad_turn {ns : List NodeS} {tg : Int} {g : List Int} {x x' : NodeS} (ht : Turned x x') (h : nodeBad ns tg g x = false) : nodeBad ns tg g x' = false := by
  have he : entriesS ns x' = entriesS ns x := by
    unfold entriesS
    rw [ht.ents, ht.next]
  unfold nodeBad at *
  rw [he, ht.gen, ht.kind, ht.mode, ht.rn, ht.wn, ht.tn]
  simp only [Bool.or_eq_false_iff] at h
  rw [h.1, h.2.1, h.2.2.2.2.2.2]
  rfl
theorem pass1_turn {ns : List NodeS} {tg : Int} {c' : Cnt} : ∀ (l : List NodeS) (k : Nat) (i : Int) (g : List Int) (c : Cnt) (x x' : NodeS), l[k]? = some x → Turned x x' → pass1 ns tg l i g c = some c' → pass1 ns tg (l.set k x') i g c = some c'
  | [], k, _, _, _, x, _, h, _, _ => by simp at h
  | y :: r, 0, i, g, c, x, x', h, ht, hp => by
    simp at h
    subst h
    rw [List.set_cons_zero, pass1, ht.kind, ht.gen, ht.ents]
    rw [pass1] at hp
    split at hp
    · rename_i hk
      rw [if_pos hk]
      split at hp
      · cases hp
      · rename_i hb
        have hb : nodeBad ns tg g y = false := by simpa using hb
        rw [nodeBad_turn ht hb, if_neg (fun h => Bool.noConfusion h)]
        exact hp
    · rename_i hk
      rw [if_neg hk]
      exact hp
  | y :: r, k + 1, i, g, c, x, x', h, ht, hp => by
    rw [List.set_cons_succ, pass1]
    rw [pass1] at hp
    split at hp
    · rename_i hk
      rw [if_pos hk]
      split at hp
      · cases hp
      · rename_i hb
        rw [if_neg hb]
        exact pass1_turn r k _ _ _ x x' (by simpa using h) ht hp
    · rename_i hk
      rw [if_neg hk]
      exact pass1_turn r k _ _ _ x x' (by simpa using h) ht hp
section
variable {ns : List NodeS} {n : Nat} {x x' : NodeS} (hx : ns[n]? = some x) (ht : Turned x x')
include hx ht
theorem parentS_turn (d : Int) : parentS (ns.set n x') d = parentS ns d := by
  obtain ⟨h1, _⟩ := List.getElem?_eq_some_iff.1 hx
  unfold parentS
  by_cases hd : n = d.toNat
  · subst hd
    rw [List.getElem?_set_self h1, hx]
    exact ht.parent
  · rw [List.getElem?_set_ne hd]
theorem withinS_turn (top : Int) : ∀ (k : Nat) (d : Int), withinS (ns.set n x') top k d = withinS ns top k d
  | 0, _ => rfl
  | k + 1, d => by rw [withinS, withinS, dirS_set hx ht.kind, parentS_turn hx ht, withinS_turn top k]
theorem nodeBad2_ns (c : Cnt) (i : Int) (y : NodeS) : nodeBad2 (ns.set n x') c i y = nodeBad2 ns c i y := by
  unfold nodeBad2
  rw [withinS_turn hx ht, List.length_set]
theorem pass2_ns (c : Cnt) : ∀ (l : List NodeS) (i : Int), pass2 (ns.set n x') c l i = pass2 ns c l i
  | [], _ => rfl
  | y :: r, i => by rw [pass2, pass2, nodeBad2_ns hx ht, pass2_ns c r]
end
theorem pass2_turn {ns : List NodeS} {c : Cnt} : ∀ (l : List NodeS) (k : Nat) (i : Int) (x x' : NodeS), l[k]? = some x → Turned x x' → pass2 ns c (l.set k x') i = pass2 ns c l i
  | [], k, _, x, _, h, _ => by simp at h
  | y :: r, 0, i, x, x', h, ht => by
    simp at h
    subst h
    have hb : nodeBad2 ns c i x' = nodeBad2 ns c i y := by
      unfold nodeBad2
      rw [ht.kind, ht.links, ht.parent]
    rw [List.set_cons_zero, pass2, pass2, hb, ht.kind]
  | y :: r, k + 1, i, x, x', h, ht => by
    rw [List.set_cons_succ, pass2, pass2, pass2_turn r k _ x x' (by simpa using h) ht]
/-- A tree that may be stays one. -/
theorem checkS_turn {ns : List NodeS} {tg : Int} {n : Nat} {x x' : NodeS} (h : checkS ns tg = true) (hx : ns[n]? = some x) (ht : Turned x x') (ho : onlyS x' = true) : checkS (ns.set n x') tg = true := by
  obtain ⟨h1, h2, c, h3, h4⟩ := checkS_has h
  have hp : preBad (ns.set n x') = false := by
    unfold preBad at *
    rw [List.length_set, kindS_set hx ht.kind, dirS_set hx ht.kind, parentS_turn hx ht, thereS_set hx ht.kind]
    exact h1
  have ha : anyBad (ns.set n x') = false := by
    unfold anyBad at *
    rw [List.any_eq_false] at h2 ⊢
    intro y hy
    rcases List.mem_or_eq_of_mem_set hy with hy | rfl
    · exact h2 y hy
    · rw [ho]
      decide
  unfold checkS
  rw [hp, ha, List.length_set, pass1_ns hx ht.kind, pass1_turn ns n _ _ _ x x' hx ht h3]
  simp only [pass2_ns hx ht, pass2_turn ns n 0 x x' hx ht, h4]
  rfl
end Go.Proofs.Ytnkeijebkpjdgaa.Ab
/- Over the engine: what is set keeps a tree. -/
namespace Go.Proofs.Ytnkeijebkpjdgaa.Ab
open Go Go.RowKit

end Go.Proofs.Ytnkeijebkpjdgaa.Ab
/- Over the engine: a tree that may be stays one, whatever is set of a node. -/
namespace Go.Proofs.Ytnkeijebkpjdgaa.Ab
open Go Go.RowKit

/-- What each node of a tree that may be has. -/
theorem node_facts {ns : List NodeS} {tg : Int} {x : NodeS} (h : checkS ns tg = true) (hx : x ∈ ns) (hk : (x.kind != 0) = true) : x.mode ≤ 4095 ∧ x.rn < 1000000000 ∧ x.wn < 1000000000 ∧ x.tn < 1000000000 := by
  obtain ⟨_, _, c, h1, _⟩ := checkS_has h
  have key : (decide (x.mode > 4095) || (!decide (x.rn < 1000000000) || (!decide (x.wn < 1000000000) || !decide (x.tn < 1000000000)))) = false := by
    cases hq : (decide (x.mode > 4095) || (!decide (x.rn < 1000000000) || (!decide (x.wn < 1000000000) || !decide (x.tn < 1000000000)))) with
    | false => rfl
    | true =>
      have := pass1_bad (ns := ns) (tg := tg) ns 0 [] (cnt0 ns.length) ⟨x, hx, hk, fun g => by
        unfold nodeBad
        simp only [Bool.or_eq_true] at hq ⊢
        rcases hq with hq | hq | hq | hq
        · exact .inr (.inr (.inl hq))
        · exact .inr (.inr (.inr (.inl hq)))
        · exact .inr (.inr (.inr (.inr (.inl hq))))
        · exact .inr (.inr (.inr (.inr (.inr (.inl hq)))))⟩
      rw [this] at h1
      cases h1
  simp only [Bool.or_eq_false_iff, Bool.not_eq_false', decide_eq_false_iff_not, decide_eq_true_eq] at key
  obtain ⟨k1, k2, k3, k4⟩ := key
  exact ⟨by omega, k2, k3, k4⟩
theorem there_kind {ns : List NodeS} {n : Int} {x : NodeS} (hn : thereS ns n = true) (hx : ns[n.toNat]? = some x) : (x.kind != 0) = true := by
  unfold thereS kindS at hn
  rw [hx] at hn
  simp only [Bool.and_eq_true] at hn
  exact hn.2.2
end Go.Proofs.Ytnkeijebkpjdgaa.Ab
/- Over the engine: what a tree that may be is found by, in plain words. -/
namespace Go.Proofs.Ytnkeijebkpjdgaa.Ab
open Go Go.RowKit

/-- Bytes as a text. -/
def keyS (l : List Int) : List UInt8 := l.map fun b => UInt8.ofNat b.toNat
/-! A tree that may be. -/
section
variable {ns : List NodeS} {tg : Int}
theorem node_ents {x : NodeS} (h : checkS ns tg = true) (hx : x ∈ ns) (hk : (x.kind != 0) = true) : (x.kind == 2) = true → entriesS ns x = true := by
  intro h2
  obtain ⟨_, _, c, h1, _⟩ := checkS_has h
  cases he : entriesS ns x with
  | true => rfl
  | false =>
    have := pass1_bad (ns := ns) (tg := tg) ns 0 [] (cnt0 ns.length) ⟨x, hx, hk, fun g => by
      unfold nodeBad
      rw [he, h2]
      simp⟩
    rw [this] at h1
    cases h1
theorem check_pre (h : checkS ns tg = true) : 2 ≤ ns.length ∧ ns.length ≤ 1025 ∧ kindS ns 0 = 0 ∧ dirS ns 1 = true := by
  obtain ⟨hp, _⟩ := checkS_has h
  unfold preBad at hp
  simp only [Bool.or_eq_false_iff, decide_eq_false_iff_not, Bool.not_eq_false'] at hp
  obtain ⟨h1, h2, h3, h4, _⟩ := hp
  refine ⟨by omega, by omega, ?_, h4⟩
  simpa [bne] using h3
/-- Each directory lies within the root. -/
theorem check_within (h : checkS ns tg = true) {n : Nat} {x : NodeS} (hx : ns[n]? = some x) (hk : (x.kind == 2) = true) (hn : 1 ≤ n) : withinS ns 1 (ns.length + 1) n = true := by
  by_cases h1 : n = 1
  · subst h1
    have := (check_pre h).2.2.2
    rw [withinS]
    rw [if_pos (show dirS ns ((1 : Nat) : Int) = true from this)]
    rfl
  · obtain ⟨_, _, c, _, h2⟩ := checkS_has h
    have hk0 : (x.kind != 0) = true := by
      have : x.kind = 2 := by simpa using hk
      rw [this]
      rfl
    have hb := pass2_good ns 0 n x h2 hx hk0
    unfold nodeBad2 at hb
    rw [hk, if_pos rfl] at hb
    simp only [Bool.or_eq_false_iff, Bool.and_eq_false_iff, decide_eq_false_iff_not, Bool.not_eq_false'] at hb
    rcases hb.2 with hb | hb
    · omega
    · have := hb.2.2
      rwa [show (0 + (n : Int)) = n by omega] at this
end
/-- The handles of the nodes ahead of one. -/
def handleK (ns : List NodeS) (n : Nat) : List Int := bytesS (IntKind.wrap .u32 n) (genS ns n)
def keysTo (ns : List NodeS) : Nat → List EntryS
  | 0 => []
  | n + 1 => if thereS ns n = true then keysTo ns n ++ [⟨keyS (handleK ns n), 0, 0⟩] else keysTo ns n
end Go.Proofs.Ytnkeijebkpjdgaa.Ab
/- Over the engine: whatever is looked at, the tree stays, but for when a file was read. -/
namespace Go.Proofs.Ytnkeijebkpjdgaa.Ab
open Go Go.RowKit

set_option maxRecDepth 100000
section
variable {ns : List NodeS} {tg : Int}
/-- The parent of a directory is one. -/
theorem parent_dir (h : checkS ns tg = true) {n : Int} (hn : dirS ns n = true) : dirS ns (parentS ns n) = true := by
  obtain ⟨hl, _, _, hd1⟩ := check_pre h
  by_cases h1 : n = 1
  · subst h1
    obtain ⟨hp, _⟩ := checkS_has h
    unfold preBad at hp
    simp only [Bool.or_eq_false_iff] at hp
    have : parentS ns 1 = 1 := by
      have := hp.2.2.2.2.1
      simpa [bne] using this
    rw [this]
    exact hd1
  · have ht : thereS ns n = true := by unfold dirS at hn; rw [Bool.and_eq_true] at hn; exact hn.1
    obtain ⟨h2, h3, _⟩ := there_facts ht
    obtain ⟨k, hk⟩ : ∃ k : Nat, n = k := ⟨n.toNat, by omega⟩
    subst hk
    obtain ⟨x, hx⟩ : ∃ x, ns[k]? = some x := ⟨_, List.getElem?_eq_getElem (by omega)⟩
    have hxk : (x.kind == 2) = true := by
      unfold dirS kindS at hn
      rw [Int.toNat_natCast, hx, Bool.and_eq_true] at hn
      exact hn.2
    have hw := check_within h hx hxk (by omega)
    obtain ⟨j, hj⟩ : ∃ j, ns.length = j + 1 := ⟨ns.length - 1, by omega⟩
    rw [withinS, if_pos hn] at hw
    have e1 : ((k : Int) == 1) = false := by rw [beq_eq_false_iff_ne]; exact h1
    rw [e1, if_neg (fun h => Bool.noConfusion h), if_neg (fun h => Bool.noConfusion h), hj, withinS] at hw
    cases hd : dirS ns (parentS ns k) with
    | true => rfl
    | false => rw [hd, if_neg (fun h => Bool.noConfusion h)] at hw; cases hw
theorem entsAt_clone (n : Int) : entsAt (ns.map cloneN) n = entsAt ns n := by
  unfold entsAt
  rw [List.getElem?_map]
  cases ns[n.toNat]? <;> rfl
theorem entryS_clone (n : Int) (name : List UInt8) : entryS (ns.map cloneN) n name = entryS ns n name := by
  unfold entryS
  rw [dirS_clone, parentS_clone, entsAt_clone]
/-- What a name leads to is there. -/
theorem entry_there (h : checkS ns tg = true) {n : Int} {name : List UInt8} {en : Int} (he : entryS ns n name = en) (hne : (en == 0) = false) : thereS ns en = true := by
  unfold entryS at he
  cases hd : dirS ns n with
  | false =>
    rw [hd, if_neg (fun h => Bool.noConfusion h)] at he
    subst he
    cases hne
  | true =>
    rw [hd, if_pos rfl] at he
    have ht : thereS ns n = true := by unfold dirS at hd; rw [Bool.and_eq_true] at hd; exact hd.1
    split at he
    · rw [← he]; exact ht
    · split at he
      · have hp := parent_dir h hd
        rw [he] at hp
        unfold dirS at hp
        rw [Bool.and_eq_true] at hp
        exact hp.1
      · obtain ⟨h2, h3, _⟩ := there_facts ht
        obtain ⟨x, hx⟩ : ∃ x, ns[n.toNat]? = some x := ⟨_, List.getElem?_eq_getElem (by omega)⟩
        have hea : entsAt ns n = x.ents := by unfold entsAt; rw [hx]
        have hxk : (x.kind == 2) = true := by
          unfold dirS kindS at hd
          rw [hx, Bool.and_eq_true] at hd
          exact hd.2
        have hen := node_ents h (List.mem_of_getElem? hx) (there_kind ht hx) hxk
        rw [hea] at he
        cases hf : x.ents.find? (fun e => e.name == name) with
        | none =>
          rw [hf] at he
          subst he
          cases hne
        | some e =>
          rw [hf] at he
          rw [← he]
          exact entries_there hen e (List.mem_of_find?_eq_some hf)
end
theorem nil_facts (off cnt : Int) (ho : 0 ≤ off) (hc : 0 ≤ cnt ∧ cnt < 4294967296) : (if IntKind.wrap .u64 ((0 : Nat) : Int) < off then IntKind.wrap .u64 ((0 : Nat) : Int) else off) = 0 ∧ (if (32768 : Int) < (if IntKind.wrap .u64 cnt < IntKind.wrap .u64 ((0 : Nat) : Int) then IntKind.wrap .u64 cnt else IntKind.wrap .u64 ((0 : Nat) : Int)) then 32768 else (if IntKind.wrap .u64 cnt < IntKind.wrap .u64 ((0 : Nat) : Int) then IntKind.wrap .u64 cnt else IntKind.wrap .u64 ((0 : Nat) : Int))) = 0 := by
  have e0 : IntKind.wrap .u64 ((0 : Nat) : Int) = 0 := rfl
  have e1 : IntKind.wrap .u64 cnt = cnt := by rw [IntKind.wrap_u64]; omega
  rw [e0, e1]
  constructor
  · split <;> omega
  · split <;> (try split) <;> (try split) <;> omega
theorem row_facts (l : List Int) (off cnt : Int) (hl : l.length ≤ 140737488351232) (ho : 0 ≤ off) (hc : 0 ≤ cnt ∧ cnt < 4294967296) : 0 ≤ (if IntKind.wrap .u64 (l.length : Int) < off then IntKind.wrap .u64 (l.length : Int) else off) ∧ (if IntKind.wrap .u64 (l.length : Int) < off then IntKind.wrap .u64 (l.length : Int) else off) ≤ l.length ∧ ∃ rest, rest = l.drop (if IntKind.wrap .u64 (l.length : Int) < off then IntKind.wrap .u64 (l.length : Int) else off).toNat ∧ 0 ≤ (if (32768 : Int) < (if IntKind.wrap .u64 cnt < IntKind.wrap .u64 (rest.length : Int) then IntKind.wrap .u64 cnt else IntKind.wrap .u64 (rest.length : Int)) then 32768 else (if IntKind.wrap .u64 cnt < IntKind.wrap .u64 (rest.length : Int) then IntKind.wrap .u64 cnt else IntKind.wrap .u64 (rest.length : Int))) ∧ (if (32768 : Int) < (if IntKind.wrap .u64 cnt < IntKind.wrap .u64 (rest.length : Int) then IntKind.wrap .u64 cnt else IntKind.wrap .u64 (rest.length : Int)) then 32768 else (if IntKind.wrap .u64 cnt < IntKind.wrap .u64 (rest.length : Int) then IntKind.wrap .u64 cnt else IntKind.wrap .u64 (rest.length : Int))) ≤ rest.length ∧ (if (32768 : Int) < (if IntKind.wrap .u64 cnt < IntKind.wrap .u64 (rest.length : Int) then IntKind.wrap .u64 cnt else IntKind.wrap .u64 (rest.length : Int)) then 32768 else (if IntKind.wrap .u64 cnt < IntKind.wrap .u64 (rest.length : Int) then IntKind.wrap .u64 cnt else IntKind.wrap .u64 (rest.length : Int))) ≤ 32768 := by
  have e0 : IntKind.wrap .u64 (l.length : Int) = l.length := by rw [IntKind.wrap_u64]; omega
  have e1 : IntKind.wrap .u64 cnt = cnt := by rw [IntKind.wrap_u64]; omega
  rw [e0, e1]
  refine ⟨by split <;> omega, by split <;> omega, _, rfl, ?_⟩
  have hr : (l.drop (if (l.length : Int) < off then (l.length : Int) else off).toNat).length ≤ l.length := by rw [List.length_drop]; omega
  generalize (l.drop (if (l.length : Int) < off then (l.length : Int) else off).toNat) = rest at hr ⊢
  have e2 : IntKind.wrap .u64 (rest.length : Int) = rest.length := by rw [IntKind.wrap_u64]; omega
  rw [e2]
  refine ⟨?_, ?_, ?_⟩ <;> split <;> (try split) <;> (try split) <;> omega
/-- What look.Do answers. -/
structure LookR (m : Nat) (ns : List NodeS) (t : Bool) (gen : Int) (c : CredS) (a : ArgsS) (ss sn : Int) (bo : Nat → Int) (L : List NodeS) (r : ResS) : Prop where
  call : ∀ (f : FuncId) (h : H), evCall TE (m + 30) f (.fn 9 [] []) [.agg [.sl (nodesA ns) ns.length t, .int .u32 gen], .agg (credL c), .agg (argL a), .agg (worldL ss sn bo)] h = some (.ret (.tup [.agg [.sl (nodesA L) ns.length true, .int .u32 gen], .agg (ansA a.proc r)]), h)
  one : oneL (ansA a.proc r) = true
  top : topL (ansA a.proc r) = 0
  len : (ansA a.proc r).length = 97
def found17 (ns : List NodeS) (a : ArgsS) (n : Int) (x : NodeS) : Prop := findHA ns (getHS a.hl) = .tup [.int .i64 n, .int .u32 0] ∧ thereS ns n = true ∧ ns[n.toNat]? = some x
def readN (x : NodeS) (ss sn : Int) : NodeS := { cloneN (cloneN x) with rs := ss, rn := sn }
set_option maxHeartbeats 4000000 in
theorem look_all (m : Nat) (ns : List NodeS) (t : Bool) (gen : Int) (c : CredS) (hc : c.ok) (a : ArgsS) (ha : a.ok) (ss sn : Int) (bo : Nat → Int) (hok : ∀ x ∈ ns, x.ok ∧ x.rng) (hck : checkS ns gen = true) (hnl : a.name.length ≤ 140737488351232) (hoff : 0 ≤ a.offset) (hcnt : 0 ≤ a.count ∧ a.count < 4294967296) :
    ∃ (L : List NodeS) (r : ResS), LookR m ns t gen c a ss sn bo L r ∧ ((L = ns.map cloneN ∧ ((a.proc == 6) && (r.stat == 0)) = false) ∨ (((a.proc == 6) && (r.stat == 0)) = true ∧ ∃ n x, found17 ns a n x ∧ nanoOk sn = true ∧ L = ((ns.map cloneN).map cloneN).set n.toNat (readN x ss sn))) := by
  obtain ⟨hlen2, hlen, _, _⟩ := check_pre hck
  have hfit : ∀ x ∈ ns, x.fit := fun x hx => ⟨(hok x hx).1, (hok x hx).2.bytesL, (hok x hx).2.entsL⟩
  have hne : ns ≠ [] := fun h => by rw [h] at hlen2; simp at hlen2
  have hK : ∀ (f : FuncId) (h : H), evCall TE (m + 29) f (.fn 7 [] []) [.agg [.sl (nodesA ns) ns.length t, .int .u32 gen]] h = some (.ret (.bool true), h) := fun f h => by
    have := check_c (m + 17) f h ns t gen (fun x hx => ⟨(hok x hx).1, (hok x hx).2.few⟩) (by omega)
    rw [hck] at this
    exact this
  cases hd : doesS a.proc with
  | false =>
    refine ⟨_, { stat := 10004 }, ⟨fun f h => look_not m f h ns t gen c hc a ha ss sn bo hfit hlen hne hK hd, rfl, rfl, rfl⟩, .inl ⟨rfl, ?_⟩⟩
    rw [Bool.and_eq_false_iff]
    exact .inr rfl
  | true =>
    cases hno : nanoOk sn with
    | false =>
      refine ⟨_, { stat := 10004 }, ⟨fun f h => look_late m f h ns t gen c hc a ha ss sn bo hfit hlen hne hK hd hno, rfl, rfl, rfl⟩, .inl ⟨rfl, ?_⟩⟩
      rw [Bool.and_eq_false_iff]
      exact .inr rfl
    | true =>
      by_cases hp0 : a.proc = 0
      · refine ⟨_, { stat := 0 }, ⟨fun f h => look_null m f h ns t gen c hc a ha ss sn bo hfit hlen hne hK hp0 hno, rfl, rfl, rfl⟩, .inl ⟨rfl, ?_⟩⟩
        rw [hp0]
        rfl
      have hp0' : (a.proc != 0) = true := by simpa [bne] using hp0
      have hF := fun (f : FuncId) (h : H) => find_c (m + 15) f h (.sl (nodesA ns) ns.length t) ns (.inr ⟨t, rfl⟩) gen a.h a.hl ha.h
      have lost : ∀ s : Int, (s == 0) = false → (∀ (f : FuncId) (h : H), evCall TE (m + 29) f (.fn 10 [] []) [.agg [.sl (nodesA ns) ns.length t, .int .u32 gen], a.h] h = some (.ret (.tup [.int .i64 0, .int .u32 s]), h)) → _ := fun s hs hF => (show ∃ (L : List NodeS) (r : ResS), LookR m ns t gen c a ss sn bo L r ∧ ((L = ns.map cloneN ∧ ((a.proc == 6) && (r.stat == 0)) = false) ∨ (((a.proc == 6) && (r.stat == 0)) = true ∧ ∃ n x, found17 ns a n x ∧ nanoOk sn = true ∧ L = ((ns.map cloneN).map cloneN).set n.toNat (readN x ss sn))) from
        ⟨_, { stat := s }, ⟨fun f h => look_lost m f h ns t gen c hc a ha ss sn bo hfit hlen hne hK hd hp0' hno s hs hF, rfl, rfl, rfl⟩, .inl ⟨rfl, by rw [Bool.and_eq_false_iff]; exact .inr hs⟩⟩)
      cases hg : getHS a.hl with
      | none =>
        rw [hg] at hF
        exact (hno ▸ lost 10001 rfl hF)
      | some p =>
        obtain ⟨n0, g⟩ := p
        rw [hg] at hF
        unfold findHA at hF
        dsimp only at hF
        cases hbad : (!thereS ns (IntKind.wrap .i64 n0) || (genS ns (IntKind.wrap .i64 n0) != g)) with
        | true =>
          rw [hbad, if_pos rfl] at hF
          exact (hno ▸ lost 70 rfl hF)
        | false =>
          rw [hbad, if_neg (fun h => Bool.noConfusion h)] at hF
          obtain ⟨n, hn⟩ : ∃ n, n = IntKind.wrap .i64 n0 := ⟨_, rfl⟩
          rw [← hn] at hF hbad
          rw [Bool.or_eq_false_iff, Bool.not_eq_false'] at hbad
          have ht := hbad.1
          obtain ⟨hn1, hn2, _⟩ := there_facts ht
          obtain ⟨x, hx⟩ : ∃ x, ns[n.toNat]? = some x := ⟨_, List.getElem?_eq_getElem (by omega)⟩
          have hxo := hok x (List.mem_of_getElem? hx)
          have hfnd : found17 ns a n x := by
            refine ⟨?_, ht, hx⟩
            unfold findHA
            rw [hg]
            dsimp only
            rw [← hn, if_neg (by rw [ht, hbad.2]; decide)]
          have hsl : ∃ tt, a.h = .sl (numsA .u8 a.hl) a.hl.length tt := by
            rcases ha.h with ⟨_, h2⟩ | h
            · rw [h2] at hg
              cases hg
            · exact h
          obtain ⟨tt, hsl⟩ := hsl
          have hd' := hd
          unfold doesS at hd'
          simp only [Bool.or_eq_true, beq_iff_eq] at hd'
          have no6 : ∀ s : Int, a.proc ≠ 6 → ((a.proc == 6) && (s == 0)) = false := fun s h => by
            rw [Bool.and_eq_false_iff]
            exact .inl (by simpa using h)
          have nz : ∀ s : Int, (s == 0) = false → ((a.proc == 6) && (s == 0)) = false := fun s h => by
            rw [Bool.and_eq_false_iff]
            exact .inr h
          rcases hd' with hp | hp | hp | hp | hp | hp | hp | hp | hp | hp
          · exact absurd hp hp0
          · exact ⟨_, _, ⟨fun f h => look_fine1 m f h ns t gen c hc a ha ss sn bo hfit hlen hne hK hp hno n x ht hx hF, rfl, rfl, rfl⟩, .inl ⟨rfl, no6 _ (by omega)⟩⟩
          · -- a name is looked up
            cases hk : (x.kind != 2) with
            | true => exact ⟨_, _, ⟨fun f h => look_lookup_not m f h ns t gen c hc a ha ss sn bo hfit hlen hne hK hp hno n x ht hx hF tt hsl hk, rfl, rfl, rfl⟩, .inl ⟨rfl, no6 _ (by omega)⟩⟩
            | false =>
              cases hns : (nameSt a.name != 0) with
              | true => exact ⟨_, _, ⟨fun f h => look_lookup_name m f h ns t gen c hc a ha ss sn bo hfit hlen hne hK hp hno n x ht hx hF tt hsl hk hnl hns, rfl, rfl, rfl⟩, .inl ⟨rfl, no6 _ (by omega)⟩⟩
              | false =>
                cases hmay : mayX x c 1 with
                | false => exact ⟨_, _, ⟨fun f h => look_lookup_may m f h ns t gen c hc a ha ss sn bo hfit hlen hne hK hp hno n x ht hx hF tt hsl hk hnl hns hmay, rfl, rfl, rfl⟩, .inl ⟨rfl, no6 _ (by omega)⟩⟩
                | true =>
                  obtain ⟨en, hen⟩ : ∃ en, entryS (ns.map cloneN) n a.name = en := ⟨_, rfl⟩
                  cases hen0 : (en == 0) with
                  | true => exact ⟨_, _, ⟨fun f h => look_lookup_none m f h ns t gen c hc a ha ss sn bo hfit hlen hne hK hp hno n x ht hx hF tt hsl hk hnl hns hmay en hen hen0, rfl, rfl, rfl⟩, .inl ⟨rfl, no6 _ (by omega)⟩⟩
                  | false =>
                    have hen1 : thereS ns en = true := entry_there hck (by rw [← entryS_clone]; exact hen) hen0
                    obtain ⟨k1, k2, _⟩ := there_facts hen1
                    obtain ⟨x2, hx2⟩ : ∃ x, ns[en.toNat]? = some x := ⟨_, List.getElem?_eq_getElem (by omega)⟩
                    exact ⟨_, _, ⟨fun f h => look_lookup m f h ns t gen c hc a ha ss sn bo hfit hlen hne hK hp hno n x ht hx hF tt hsl hk hnl hns hmay en hen hen0 x2 hen1 (by omega) hx2, rfl, rfl, rfl⟩, .inl ⟨rfl, no6 _ (by omega)⟩⟩
          · exact ⟨_, _, ⟨fun f h => look_access m f h ns t gen c hc a ha ss sn bo hfit hlen hne hK hp hno n x ht hx hF, rfl, rfl, rfl⟩, .inl ⟨rfl, no6 _ (by omega)⟩⟩
          · cases hk : (x.kind != 5) with
            | true => exact ⟨_, _, ⟨fun f h => look_readlink_not m f h ns t gen c hc a ha ss sn bo hfit hlen hne hK hp hno n x ht hx hF hk, rfl, rfl, rfl⟩, .inl ⟨rfl, no6 _ (by omega)⟩⟩
            | false => exact ⟨_, _, ⟨fun f h => look_readlink m f h ns t gen c hc a ha ss sn bo hfit hlen hne hK hp hno n x ht hx hF hk, rfl, rfl, rfl⟩, .inl ⟨rfl, no6 _ (by omega)⟩⟩
          · -- a file is read
            have h6 : (a.proc == 6) = true := by rw [hp]; rfl
            cases hk : (x.kind == 2) with
            | true => exact ⟨_, _, ⟨fun f h => look_read_dir m f h ns t gen c hc a ha ss sn bo hfit hlen hne hK hp hno n x ht hx hF tt hsl hk, rfl, rfl, rfl⟩, .inl ⟨rfl, nz _ rfl⟩⟩
            | false =>
              cases hk5 : (x.kind == 5) with
              | true => exact ⟨_, _, ⟨fun f h => look_read_link m f h ns t gen c hc a ha ss sn bo hfit hlen hne hK hp hno n x ht hx hF tt hsl hk hk5, rfl, rfl, rfl⟩, .inl ⟨rfl, nz _ rfl⟩⟩
              | false =>
                have good : ((a.proc == 6) && ((0 : Int) == 0)) = true := by rw [h6]; rfl
                have hmw : mayX x c 4 = true ∨ (mayX x c 4 = false ∧ ownsS ns n c = true) ∨ (mayX x c 4 = false ∧ ownsS ns n c = false) := by
                  cases mayX x c 4 <;> cases ownsS ns n c <;> simp
                rcases hmw with hmay | ⟨hmay, how⟩ | ⟨hmay, how⟩
                · rcases hxo.1.1 with ⟨hda, _⟩ | ⟨td, hda⟩
                  · obtain ⟨j1, j2⟩ := nil_facts a.offset a.count hoff hcnt
                    exact ⟨_, _, ⟨fun f h => look_read_nil m f h ns t gen c hc a ha ss sn bo hfit hlen hne hK hp hno n x ht hx hF tt hsl hk hk5 hmay hda j1 j2, rfl, rfl, rfl⟩, .inr ⟨good, n, x, hfnd, rfl, rfl⟩⟩
                  · obtain ⟨j1, j2, rest, j3, j4, j5, j6⟩ := row_facts x.bytes a.offset a.count hxo.2.bytesL hoff hcnt
                    cases hD : rest.take (if (32768 : Int) < (if IntKind.wrap .u64 a.count < IntKind.wrap .u64 (rest.length : Int) then IntKind.wrap .u64 a.count else IntKind.wrap .u64 (rest.length : Int)) then 32768 else (if IntKind.wrap .u64 a.count < IntKind.wrap .u64 (rest.length : Int) then IntKind.wrap .u64 a.count else IntKind.wrap .u64 (rest.length : Int))).toNat with
                    | nil => exact ⟨_, _, ⟨fun f h => look_read_none m f h ns t gen c hc a ha ss sn bo hfit hlen hne hK hp hno n x ht hx hF tt hsl hk hk5 hmay td hda rest j1 j2 j3 j4 j5 hD, rfl, rfl, rfl⟩, .inr ⟨good, n, x, hfnd, rfl, rfl⟩⟩
                    | cons da0 dr =>
                      have hl := congrArg List.length hD
                      rw [List.length_take, List.length_cons] at hl
                      exact ⟨_, _, ⟨fun f h => look_read m f h ns t gen c hc a ha ss sn bo hfit hlen hne hK hp hno n x ht hx hF tt hsl hk hk5 hmay td hda rest j1 j2 j3 j4 j5 da0 dr hD (by omega), rfl, rfl, rfl⟩, .inr ⟨good, n, x, hfnd, rfl, rfl⟩⟩
                · rcases hxo.1.1 with ⟨hda, _⟩ | ⟨td, hda⟩
                  · obtain ⟨j1, j2⟩ := nil_facts a.offset a.count hoff hcnt
                    exact ⟨_, _, ⟨fun f h => look_read_nil_own m f h ns t gen c hc a ha ss sn bo hfit hlen hne hK hp hno n x ht hx hF tt hsl hk hk5 hmay how hda j1 j2, rfl, rfl, rfl⟩, .inr ⟨good, n, x, hfnd, rfl, rfl⟩⟩
                  · obtain ⟨j1, j2, rest, j3, j4, j5, j6⟩ := row_facts x.bytes a.offset a.count hxo.2.bytesL hoff hcnt
                    cases hD : rest.take (if (32768 : Int) < (if IntKind.wrap .u64 a.count < IntKind.wrap .u64 (rest.length : Int) then IntKind.wrap .u64 a.count else IntKind.wrap .u64 (rest.length : Int)) then 32768 else (if IntKind.wrap .u64 a.count < IntKind.wrap .u64 (rest.length : Int) then IntKind.wrap .u64 a.count else IntKind.wrap .u64 (rest.length : Int))).toNat with
                    | nil => exact ⟨_, _, ⟨fun f h => look_read_none_own m f h ns t gen c hc a ha ss sn bo hfit hlen hne hK hp hno n x ht hx hF tt hsl hk hk5 hmay how td hda rest j1 j2 j3 j4 j5 hD, rfl, rfl, rfl⟩, .inr ⟨good, n, x, hfnd, rfl, rfl⟩⟩
                    | cons da0 dr =>
                      have hl := congrArg List.length hD
                      rw [List.length_take, List.length_cons] at hl
                      exact ⟨_, _, ⟨fun f h => look_read_own m f h ns t gen c hc a ha ss sn bo hfit hlen hne hK hp hno n x ht hx hF tt hsl hk hk5 hmay how td hda rest j1 j2 j3 j4 j5 da0 dr hD (by omega), rfl, rfl, rfl⟩, .inr ⟨good, n, x, hfnd, rfl, rfl⟩⟩
                · exact ⟨_, _, ⟨fun f h => look_read_may m f h ns t gen c hc a ha ss sn bo hfit hlen hne hK hp hno n x ht hx hF tt hsl hk hk5 hmay how, rfl, rfl, rfl⟩, .inl ⟨rfl, nz _ rfl⟩⟩
          · exact ⟨_, _, ⟨fun f h => look_stat m f h ns t gen c hc a ha ss sn bo hfit hlen hne hK hp hno n x ht hx hF tt hsl _ _ rfl, rfl, rfl, rfl⟩, .inl ⟨rfl, no6 _ (by omega)⟩⟩
          · exact ⟨_, _, ⟨fun f h => look_fine19 m f h ns t gen c hc a ha ss sn bo hfit hlen hne hK hp hno n x ht hx hF, rfl, rfl, rfl⟩, .inl ⟨rfl, no6 _ (by omega)⟩⟩
          · exact ⟨_, _, ⟨fun f h => look_fine20 m f h ns t gen c hc a ha ss sn bo hfit hlen hne hK hp hno n x ht hx hF, rfl, rfl, rfl⟩, .inl ⟨rfl, no6 _ (by omega)⟩⟩
          · cases hk : (x.kind == 2) with
            | true => exact ⟨_, _, ⟨fun f h => look_commit_dir m f h ns t gen c hc a ha ss sn bo hfit hlen hne hK hp hno n x ht hx hF hk, rfl, rfl, rfl⟩, .inl ⟨rfl, no6 _ (by omega)⟩⟩
            | false =>
              cases hk5 : (x.kind == 5) with
              | true => exact ⟨_, _, ⟨fun f h => look_commit_link m f h ns t gen c hc a ha ss sn bo hfit hlen hne hK hp hno n x ht hx hF hk hk5, rfl, rfl, rfl⟩, .inl ⟨rfl, no6 _ (by omega)⟩⟩
              | false => exact ⟨_, _, ⟨fun f h => look_commit_ok m f h ns t gen c hc a ha ss sn bo hfit hlen hne hK hp hno n x ht hx hF hk hk5, rfl, rfl, rfl⟩, .inl ⟨rfl, no6 _ (by omega)⟩⟩
end Go.Proofs.Ytnkeijebkpjdgaa.Ab
/- Over the engine: what is refused; the law GuardTwice. -/
namespace Go.Proofs.Ytnkeijebkpjdgaa.Ab
open Go Go.RowKit

set_option maxRecDepth 100000
def code4 (a1 a2 a3 a4 : Int) : Int := if (a1 != 0) = true then a1 else if (a2 != 0) = true then a2 else if (a3 != 0) = true then a3 else a4
end Go.Proofs.Ytnkeijebkpjdgaa.Ab
/- Over the engine: what is set again, in plain words. -/
namespace Go.Proofs.Ytnkeijebkpjdgaa.Ab
open Go Go.RowKit

set_option maxRecDepth 100000
section
variable (ns : List NodeS) (n : Int) (s : SetS) (ss sn : Int) (x : NodeS) (hok : ∀ x ∈ ns, x.fit) (hn : thereS ns n = true) (hx : ns[n.toNat]? = some x) (hsm : s.hs = true → s.size ≤ 65536)
include hx in
end
end Go.Proofs.Ytnkeijebkpjdgaa.Ab
/- Over the engine: a tree in which a file was read may be one. -/
namespace Go.Proofs.Ytnkeijebkpjdgaa.Ab
open Go Go.RowKit

theorem read_check {ns : List NodeS} {tg n ss sn : Int} {x : NodeS} (h : checkS ns tg = true) (hn : thereS ns n = true) (hx : ns[n.toNat]? = some x) (hno : nanoOk sn = true) : checkS (((ns.map cloneN).map cloneN).set n.toNat (readN x ss sn)) tg = true := by
  have hm := List.mem_of_getElem? hx
  have hk := there_kind hn hx
  obtain ⟨k1, k2, k3, k4⟩ := node_facts h hm hk
  have ho : onlyS x = true := by
    obtain ⟨_, ha, _⟩ := checkS_has h
    cases ho : onlyS x with
    | true => rfl
    | false => rw [anyBad_of hm ho] at ha; cases ha
  have e : (x.kind == 0) = false := by simpa [bne] using hk
  have ho2 : onlyS (readN x ss sn) = true := by
    unfold onlyS at ho ⊢
    rw [e, if_neg (fun h => Bool.noConfusion h)] at ho
    rw [show ((readN x ss sn).kind == 0) = false from e, if_neg (fun h => Bool.noConfusion h)]
    exact ho
  have hx2 : ((ns.map cloneN).map cloneN)[n.toNat]? = some (cloneN (cloneN x)) := by rw [List.getElem?_map, List.getElem?_map, hx]; rfl
  have ht : Turned (cloneN (cloneN x)) (readN x ss sn) := ⟨rfl, rfl, rfl, rfl, rfl, rfl, decide_eq_false (by show ¬ (x.mode > 4095); omega), hno, decide_eq_true k3, decide_eq_true k4⟩
  exact checkS_turn (by rw [checkS_clone, checkS_clone]; exact h) hx2 ht ho2
/-- A node that was read, its Read put back. -/
theorem nodeEq_read (x : NodeS) (ss sn : Int) : nodeEq { readN x ss sn with rs := x.rs, rn := x.rn } x = true := nodeEq_of ⟨rfl, rfl, rfl, rfl, rfl, rfl, rfl, rfl, rfl, rfl, rfl, rfl, rfl, rfl, rfl, rfl, rfl, rfl⟩
theorem nodeEq_twice (x : NodeS) : nodeEq (cloneN (cloneN x)) x = true := nodeEq_of ⟨rfl, rfl, rfl, rfl, rfl, rfl, rfl, rfl, rfl, rfl, rfl, rfl, rfl, rfl, rfl, rfl, rfl, rfl⟩
end Go.Proofs.Ytnkeijebkpjdgaa.Ab
/- Over the engine: the law LookKeeps: where nothing is claimed. -/
namespace Go.Proofs.Ytnkeijebkpjdgaa.Ab
open Go Go.RowKit

set_option maxRecDepth 100000
set_option maxHeartbeats 8000000 in
theorem keeps17_great (m : Nat) (from_ : FuncId) (h : H) (x : CallS) (hx : x.ok) (hG : ∀ (f : FuncId) (h : H), evCall TE (m + 59) f (.fn 6 [] []) [callA x] h = some (.ret (.bool true), h)) : evCall TE (m + 60) from_ (.fn 3 [] []) [callA x] h = some (.ret (.bool true), h) := by
  have hcl : cleanL [callA x] = true := by
    have h1 := row_clean hx.c.1
    have h2 := row_clean hx.a.h
    have h3 := row_clean hx.a.h2
    have h4 := row_clean hx.a.data
    rcases hx.t.v with ⟨e, _⟩ | ⟨t, e⟩ <;> simp [callA, cleanL, AV.clean, argL, worldL, h1, h2, h3, h4, e]
  have hone : oneL ([x.t.v, .int .u32 x.t.gen, .int .u32 x.c.user, .int .u32 x.c.group, x.c.gs] ++ argL x.a ++ worldL x.ss x.sn x.bo) = true := by
    have h1 := rowOne hx.c.1
    rcases hx.t.v with ⟨e, _⟩ | ⟨t, e⟩
    all_goals
      rw [oneL_app, oneL_app, args_one hx.a, e]
      simp only [oneL, h1]
      rfl
  have cG : ∀ (f : FuncId) (h : H), (evAll TE (m + 59)).1 f (.fn 6 [] []) [callA x] h = some (.ret (.bool true), h) := hG
  have cL : ∀ (f : FuncId) (h : H), (evAll TE (m + 59)).1 f (.fn 8 [] []) [] h = some (.ret (.bool true), h) := fun f h => lives17_c (m + 9) f h
  have hv := hx.t.v
  have h1 := hx.c.1
  clear hx hG
  obtain ⟨⟨v, ns, gen⟩, ⟨u, gr, gs, l⟩, ⟨proc, ah, ahl, name, h2, h2l, name2, ⟨hm, mode, hu, user, hgg, group, hs, size, rh, rs, rn, wh, ws, wn⟩, hasG, gts, gn, bits, offset, count, max, stable, data, datal, target, how, kind, verf, cookie⟩, ss, sn, bo⟩ := x
  unfold callA at hcl cG ⊢
  unfold argL worldL at *
  dsimp only [List.cons_append, List.nil_append] at *
  rcases h1 with ⟨rfl, rfl⟩ | ⟨tt, rfl⟩ <;> rcases hv with ⟨rfl, rfl⟩ | ⟨t, rfl⟩
  all_goals refine call_clean (fn := Try.f3) rfl Try.func3 rfl rfl hcl rfl rfl (Nat.le_of_ble_eq_true rfl) ?_
  all_goals
    conv => whnf
    (refine runK_ret (ev_box rfl hone) ?_)
    conv => whnf
    with_reducible refine ⟨_, _, cG _ _, ?_⟩
    conv => whnf
    with_reducible refine ⟨_, _, cL _ _, ?_⟩
    conv => whnf
set_option maxHeartbeats 8000000 in
theorem keeps17_none (m : Nat) (from_ : FuncId) (h : H) (x : CallS) (hx : x.ok) (hG : ∀ (f : FuncId) (h : H), evCall TE (m + 59) f (.fn 6 [] []) [callA x] h = some (.ret (.bool false), h)) (hK : ∀ (f : FuncId) (h : H), evCall TE (m + 59) f (.fn 7 [] []) [.agg [x.t.v, .int .u32 x.t.gen]] h = some (.ret (.bool false), h)) : evCall TE (m + 60) from_ (.fn 3 [] []) [callA x] h = some (.ret (.bool true), h) := by
  have hcl : cleanL [callA x] = true := by
    have h1 := row_clean hx.c.1
    have h2 := row_clean hx.a.h
    have h3 := row_clean hx.a.h2
    have h4 := row_clean hx.a.data
    rcases hx.t.v with ⟨e, _⟩ | ⟨t, e⟩ <;> simp [callA, cleanL, AV.clean, argL, worldL, h1, h2, h3, h4, e]
  have hone : oneL ([x.t.v, .int .u32 x.t.gen, .int .u32 x.c.user, .int .u32 x.c.group, x.c.gs] ++ argL x.a ++ worldL x.ss x.sn x.bo) = true := by
    have h1 := rowOne hx.c.1
    rcases hx.t.v with ⟨e, _⟩ | ⟨t, e⟩
    all_goals
      rw [oneL_app, oneL_app, args_one hx.a, e]
      simp only [oneL, h1]
      rfl
  have cG : ∀ (f : FuncId) (h : H), (evAll TE (m + 59)).1 f (.fn 6 [] []) [callA x] h = some (.ret (.bool false), h) := hG
  have cK : ∀ (f : FuncId) (h : H), (evAll TE (m + 59)).1 f (.fn 7 [] []) [.agg [x.t.v, .int .u32 x.t.gen]] h = some (.ret (.bool false), h) := hK
  have cL : ∀ (f : FuncId) (h : H), (evAll TE (m + 59)).1 f (.fn 8 [] []) [] h = some (.ret (.bool true), h) := fun f h => lives17_c (m + 9) f h
  have hv := hx.t.v
  have h1 := hx.c.1
  clear hx hG
  obtain ⟨⟨v, ns, gen⟩, ⟨u, gr, gs, l⟩, ⟨proc, ah, ahl, name, h2, h2l, name2, ⟨hm, mode, hu, user, hgg, group, hs, size, rh, rs, rn, wh, ws, wn⟩, hasG, gts, gn, bits, offset, count, max, stable, data, datal, target, how, kind, verf, cookie⟩, ss, sn, bo⟩ := x
  unfold callA at hcl cG ⊢
  unfold argL worldL at *
  dsimp only [List.cons_append, List.nil_append] at *
  rcases h1 with ⟨rfl, rfl⟩ | ⟨tt, rfl⟩ <;> rcases hv with ⟨rfl, rfl⟩ | ⟨t, rfl⟩
  all_goals refine call_clean (fn := Try.f3) rfl Try.func3 rfl rfl hcl rfl rfl (Nat.le_of_ble_eq_true rfl) ?_
  all_goals
    conv => whnf
    (refine runK_ret (ev_box rfl hone) ?_)
    conv => whnf
    with_reducible refine ⟨_, _, cG _ _, ?_⟩
    conv => whnf
    with_reducible refine ⟨_, _, cK _ _, ?_⟩
    conv => whnf
    with_reducible refine ⟨_, _, cL _ _, ?_⟩
    conv => whnf
end Go.Proofs.Ytnkeijebkpjdgaa.Ab
/- Over the engine: the law LookKeeps, walked. -/
namespace Go.Proofs.Ytnkeijebkpjdgaa.Ab
open Go Go.RowKit

set_option maxRecDepth 100000
theorem nodesA_read {l : List NodeS} {i : Nat} {x : NodeS} (h : l[i]? = some x) : ((nodesA l).drop (i * 25 + 6)).take 2 = [.int .u32 x.rs, .int .u32 x.rn] := by
  obtain ⟨r, hr⟩ := rows_drop nodeA_len l i x h
  have hr' : (nodesA l).drop (i * 25) = nodeA x ++ r := hr
  rw [← List.drop_drop, hr']
  rfl
/-- A list of known length, cell by cell. -/
theorem list_cells : ∀ l : List AV, l = (List.range l.length).map fun i => (l[i]?).getD .hole := by
  intro l
  apply List.ext_getElem
  · simp
  · intro i h1 h2
    simp [h1]
set_option maxHeartbeats 8000000 in
theorem keeps17_ok (m : Nat) (from_ : FuncId) (h : H) (x : CallS) (hx : x.ok) (hG : ∀ (f : FuncId) (h : H), evCall TE (m + 59) f (.fn 6 [] []) [callA x] h = some (.ret (.bool false), h)) (hK : ∀ (f : FuncId) (h : H), evCall TE (m + 59) f (.fn 7 [] []) [.agg [x.t.v, .int .u32 x.t.gen]] h = some (.ret (.bool true), h)) (t : Bool) (hxv : x.t.v = .sl (nodesA x.t.ns) x.t.ns.length t) (L : List NodeS) (r : ResS) (hD : LookR (m + 29) x.t.ns t x.t.gen x.c x.a x.ss x.sn x.bo L r)
    (n e : Int) (hF : ∀ (f : FuncId) (h : H), evCall TE (m + 59) f (.fn 10 [] []) [.agg [x.t.v, .int .u32 x.t.gen], x.a.h] h = some (.ret (.tup [.int .i64 n, .int .u32 e]), h))
    (hK2 : ∀ (f : FuncId) (h : H), evCall TE (m + 59) f (.fn 7 [] []) [.agg [.sl (nodesA L) x.t.ns.length true, .int .u32 x.t.gen]] h = some (.ret (.bool true), h))
    (hl : L.length = x.t.ns.length) (hle : L.length ≤ 300) (hokL : ∀ y ∈ L, y.ok) (hok : ∀ y ∈ x.t.ns, y.ok)
    (hs1 : ∀ (i : Int) (a b : NodeS), L[i.toNat]? = some a → x.t.ns[i.toNat]? = some b → 0 ≤ i → (i == n && ((x.a.proc == 6) && (r.stat == 0))) = false → ∀ (f : FuncId) (h : H), evCall TE (m + 59) f (.fn 11 [] []) [.agg (nodeA a), .agg (nodeA b)] h = some (.ret (.bool true), h))
    (hs2 : ∀ (i : Int) (a b : NodeS), L[i.toNat]? = some a → x.t.ns[i.toNat]? = some b → 0 ≤ i → (i == n && ((x.a.proc == 6) && (r.stat == 0))) = true → ∀ (f : FuncId) (h : H), evCall TE (m + 59) f (.fn 11 [] []) [.agg (nodeA { a with rs := b.rs, rn := b.rn }), .agg (nodeA b)] h = some (.ret (.bool true), h)) : evCall TE (m + 60) from_ (.fn 3 [] []) [callA x] h = some (.ret (.bool true), h) := by
  have hcl : cleanL [callA x] = true := by
    have h1 := row_clean hx.c.1
    have h2 := row_clean hx.a.h
    have h3 := row_clean hx.a.h2
    have h4 := row_clean hx.a.data
    rcases hx.t.v with ⟨e, _⟩ | ⟨t, e⟩ <;> simp [callA, cleanL, AV.clean, argL, worldL, h1, h2, h3, h4, e]
  have hone : oneL ([x.t.v, .int .u32 x.t.gen, .int .u32 x.c.user, .int .u32 x.c.group, x.c.gs] ++ argL x.a ++ worldL x.ss x.sn x.bo) = true := by
    have h1 := rowOne hx.c.1
    rcases hx.t.v with ⟨e, _⟩ | ⟨t, e⟩
    all_goals
      rw [oneL_app, oneL_app, args_one hx.a, e]
      simp only [oneL, h1]
      rfl
  have cG : ∀ (f : FuncId) (h : H), (evAll TE (m + 59)).1 f (.fn 6 [] []) [callA x] h = some (.ret (.bool false), h) := hG
  have cK : ∀ (f : FuncId) (h : H), (evAll TE (m + 59)).1 f (.fn 7 [] []) [.agg [x.t.v, .int .u32 x.t.gen]] h = some (.ret (.bool true), h) := hK
  have cK2 : ∀ (f : FuncId) (h : H), (evAll TE (m + 59)).1 f (.fn 7 [] []) [.agg [.sl (nodesA L) x.t.ns.length true, .int .u32 x.t.gen]] h = some (.ret (.bool true), h) := hK2
  have cF : ∀ (f : FuncId) (h : H), (evAll TE (m + 59)).1 f (.fn 10 [] []) [.agg [x.t.v, .int .u32 x.t.gen], x.a.h] h = some (.ret (.tup [.int .i64 n, .int .u32 e]), h) := hF
  have cD : ∀ (f : FuncId) (h : H), (evAll TE (m + 59)).1 f (.fn 9 [] []) [.agg [.sl (nodesA x.t.ns) x.t.ns.length t, .int .u32 x.t.gen], .agg (credL x.c), .agg (argL x.a), .agg (worldL x.ss x.sn x.bo)] h = some (.ret (.tup [.agg [.sl (nodesA L) x.t.ns.length true, .int .u32 x.t.gen], .agg (ansA x.a.proc r)]), h) := fun f h => hD.call f h
  have cL : ∀ (f : FuncId) (h : H), (evAll TE (m + 59)).1 f (.fn 8 [] []) [] h = some (.ret (.bool true), h) := fun f h => lives17_c (m + 9) f h
  have ho := hD.one
  have htp := hD.top
  have hln := hD.len
  have h1 := hx.c.1
  have q1 := hx.a.h
  clear hx hG hK hK2 hF hD
  obtain ⟨rest, hA⟩ : ∃ rest, ansA x.a.proc r = .int .u32 x.a.proc :: .int .u32 r.stat :: rest := ⟨_, rfl⟩
  rw [hA] at cD ho htp hln
  obtain ⟨stat, hst⟩ : ∃ s, r.stat = s := ⟨_, rfl⟩
  rw [hst] at cD ho htp hln hs1 hs2
  clear hA hst
  obtain ⟨g, hg⟩ : ∃ g : Nat → AV, rest = [g 0, g 1, g 2, g 3, g 4, g 5, g 6, g 7, g 8, g 9, g 10, g 11, g 12, g 13, g 14, g 15, g 16, g 17, g 18, g 19, g 20, g 21, g 22, g 23, g 24, g 25, g 26, g 27, g 28, g 29, g 30, g 31, g 32, g 33, g 34, g 35, g 36, g 37, g 38, g 39, g 40, g 41, g 42, g 43, g 44, g 45, g 46, g 47, g 48, g 49, g 50, g 51, g 52, g 53, g 54, g 55, g 56, g 57, g 58, g 59, g 60, g 61, g 62, g 63, g 64, g 65, g 66, g 67, g 68, g 69, g 70, g 71, g 72, g 73, g 74, g 75, g 76, g 77, g 78, g 79, g 80, g 81, g 82, g 83, g 84, g 85, g 86, g 87, g 88, g 89, g 90, g 91, g 92, g 93, g 94] := ⟨fun i => (rest[i]?).getD .hole, by
    have h95 : rest.length = 95 := by
      simp only [List.length_cons] at hln
      omega
    have := list_cells rest
    rw [h95] at this
    exact this⟩
  rw [hg] at cD ho htp hln
  clear hg
  obtain ⟨⟨v, ns, gen⟩, ⟨u, gr, gs, l⟩, ⟨proc, ah, ahl, name, h2, h2l, name2, ⟨hm, mode, hu, user, hgg, group, hs, size, rh, rs, rn, wh, ws, wn⟩, hasG, gts, gn, bits, offset, count, max, stable, data, datal, target, how, kind, verf, cookie⟩, ss, sn, bo⟩ := x
  dsimp only at hxv hok hs1 hs2 hl
  subst hxv
  unfold callA at hcl cG ⊢
  unfold credL at cD
  unfold argL worldL at *
  dsimp only [List.cons_append, List.nil_append] at *
  have hne : ((ns.length : Int) != (ns.length : Int)) = false := by simp
  have hng : (gen != gen) = false := by simp
  rcases q1 with ⟨rfl, rfl⟩ | ⟨u1, rfl⟩
  all_goals refine call_clean (fn := Try.f3) rfl Try.func3 rfl rfl hcl rfl rfl (Nat.le_of_ble_eq_true rfl) ?_
  all_goals
    conv => whnf
    (refine runK_ret (ev_box rfl hone) ?_)
    conv => whnf
    with_reducible refine ⟨_, _, cG _ _, ?_⟩
    conv => whnf
    with_reducible refine ⟨_, _, cK _ _, ?_⟩
    conv => whnf
    with_reducible refine ⟨_, _, cD _ _, ?_⟩
    conv => whnf
    (refine runK_store (z := 97) rfl rfl rfl hln ho rfl rfl rfl (Nat.le_of_ble_eq_true rfl) (.inl rfl) ?_)
    conv => whnf
    (refine listK_of (if_pos (Nat.le_trans (Nat.le_of_eq htp) (Nat.zero_le _))) ?_)
    conv => whnf
    with_reducible refine ⟨_, _, cF _ _, ?_⟩
    conv => whnf
    with_reducible refine ⟨_, _, cK2 _ _, ?_⟩
    conv => whnf
    ((with_reducible cases z0 : (↑ns.length : Int) != (↑ns.length : Int)) <;> try exact Bool.noConfusion (Eq.trans (Eq.symm z0) hne))
    conv => whnf
    ((with_reducible cases z1 : gen != gen) <;> try exact Bool.noConfusion (Eq.trans (Eq.symm z1) hng))
    conv => whnf
  all_goals refine ⟨ns.length + 1, by show ns.length + 1 ≤ 4611686018427387904; omega, ?_⟩
  all_goals refine rounds_at (fun s (i : Int) => ⟨RG.of 104 [(7, .int .i64 i), (5, .int .i64 n), (4, .ref 2 0 0), (3, .ref 1 0 0), (1, .ref 0 0 0)], s.h⟩) (fun i => 0 ≤ i ∧ i ≤ ns.length) (fun i => (ns.length - i).toNat) _ 0 ⟨by omega, by omega⟩ (by show ((ns.length : Int) - 0).toNat < ns.length + 1; omega) (by kernel_rfl) ?_
  all_goals intro i m' hI ih
  all_goals dsimp only at hI ih ⊢
  all_goals obtain ⟨hI0, hI1⟩ := hI
  all_goals conv => whnf
  all_goals cases hlt : decide (i < (ns.length : Int)) with
  | false =>
    clear ih hs1 hs2
    conv => whnf
    with_reducible refine ⟨_, _, cL _ _, ?_⟩
    conv => whnf
  | true =>
    have hlt := of_decide_eq_true hlt
    obtain ⟨x, hx⟩ : ∃ x, L[i.toNat]? = some x := ⟨_, List.getElem?_eq_getElem (by omega)⟩
    obtain ⟨y, hy⟩ : ∃ y, ns[i.toNat]? = some y := ⟨_, List.getElem?_eq_getElem (by omega)⟩
    have hw : IntKind.wrap .i64 (i + 1) = i + 1 := wrap64 (by omega) (by omega)
    have hmu : (ns.length - IntKind.wrap .i64 (i + 1)).toNat < (ns.length - i).toNat := by rw [hw]; omega
    have hst : 0 ≤ IntKind.wrap .i64 (i + 1) ∧ IntKind.wrap .i64 (i + 1) ≤ ns.length := by rw [hw]; omega
    have hc1 : i.toNat * 25 + 25 ≤ (nodesA L).length := by rw [nodesA_len]; omega
    have hc2 : i.toNat * 25 + 25 ≤ (nodesA ns).length := by rw [nodesA_len]; omega
    have hc3 : i.toNat * 25 + 6 + 2 ≤ (nodesA ns).length := by rw [nodesA_len]; omega
    have hd1 := nodesA_node hx
    have hd2 := nodesA_node hy
    have hd3' := nodesA_read hy
    have k1 := hokL x (List.mem_of_getElem? hx)
    have k2 := hok y (List.mem_of_getElem? hy)
    have cS1 := hs1 i x y hx hy hI0
    have cS2 := hs2 i x y hx hy hI0
    unfold nodeA at cS1 cS2
    obtain ⟨kd, ge, mo, us, ng, li, xrs, xrn, xws, xwn, ts, tn, da, by_, vf, ta, ls, es, pa, nx⟩ := x
    obtain ⟨kd', ge', mo', us', ng', li', xrs', xrn', xws', xwn', ts', tn', da', by', vf', ta', ls', es', pa', nx'⟩ := y
    simp only [NodeS.ok, rowOk, entsOk] at k1 k2
    obtain ⟨hd3, hd4⟩ := k1
    obtain ⟨hd5, hd6⟩ := k2
    dsimp only at cS1 cS2 hd3'
    clear hs1 hs2 hokL hok
    have hgo : (i == n) = false ∨ ((i == n) = true ∧ (proc == 6) = false) ∨ ((i == n) = true ∧ (proc == 6) = true ∧ (stat == 0) = false) ∨ ((i == n) = true ∧ (proc == 6) = true ∧ (stat == 0) = true) := by
      cases i == n <;> cases proc == 6 <;> cases stat == 0 <;> simp
    rcases hgo with g1 | ⟨g1, g2⟩ | ⟨g1, g2, g3⟩ | ⟨g1, g2, g3⟩
    · have c1 : ∀ (f : FuncId) (h : H), (evAll TE (m + 59)).1 f (.fn 11 [] []) _ h = some (.ret (.bool true), h) := cS1 (by rw [g1]; rfl)
      clear cS1 cS2
      rcases hd3 with ⟨rfl, rfl⟩ | ⟨dt, rfl⟩ <;> rcases hd4 with ⟨rfl, rfl⟩ | ⟨lt, rfl⟩ <;> rcases hd5 with ⟨rfl, rfl⟩ | ⟨dt', rfl⟩ <;> rcases hd6 with ⟨rfl, rfl⟩ | ⟨lt', rfl⟩
      all_goals
        conv => whnf
        (refine runK_ret (ev_indexSl (cells := nodesA L) (sz := 25) rfl rfl rfl rfl hI0 hlt) ?_)
        conv => whnf
        (refine runK_ret (ev_loadVA (z := 25) rfl rfl rfl hc1 hd1) ?_)
        conv => whnf
        ((with_reducible cases z0 : i == n) <;> try exact Bool.noConfusion (Eq.trans (Eq.symm z0) g1))
        conv => whnf
        (refine runK_ret (ev_indexSl (cells := nodesA ns) (sz := 25) rfl rfl rfl rfl hI0 hlt) ?_)
        conv => whnf
        (refine runK_ret (ev_loadVA (z := 25) rfl rfl rfl hc2 hd2) ?_)
        conv => whnf
        with_reducible refine ⟨_, _, c1 _ _, ?_⟩
        conv => whnf
        (refine ⟨by kernel_rfl, ?_⟩)
        conv => whnf
        (refine ⟨by kernel_rfl, ?_⟩)
        conv => whnf
        (exact ih (IntKind.wrap .i64 (i + 1)) _ hst hmu (by kernel_rfl))
    · have c1 : ∀ (f : FuncId) (h : H), (evAll TE (m + 59)).1 f (.fn 11 [] []) _ h = some (.ret (.bool true), h) := cS1 (by rw [g1, g2]; rfl)
      clear cS1 cS2
      rcases hd3 with ⟨rfl, rfl⟩ | ⟨dt, rfl⟩ <;> rcases hd4 with ⟨rfl, rfl⟩ | ⟨lt, rfl⟩ <;> rcases hd5 with ⟨rfl, rfl⟩ | ⟨dt', rfl⟩ <;> rcases hd6 with ⟨rfl, rfl⟩ | ⟨lt', rfl⟩
      all_goals
        conv => whnf
        (refine runK_ret (ev_indexSl (cells := nodesA L) (sz := 25) rfl rfl rfl rfl hI0 hlt) ?_)
        conv => whnf
        (refine runK_ret (ev_loadVA (z := 25) rfl rfl rfl hc1 hd1) ?_)
        conv => whnf
        ((with_reducible cases z0 : i == n) <;> try exact Bool.noConfusion (Eq.trans (Eq.symm z0) g1))
        conv => whnf
        ((with_reducible cases z1 : proc == Int.ofNat 6) <;> try exact Bool.noConfusion (Eq.trans (Eq.symm z1) g2))
        conv => whnf
        (refine runK_ret (ev_indexSl (cells := nodesA ns) (sz := 25) rfl rfl rfl rfl hI0 hlt) ?_)
        conv => whnf
        (refine runK_ret (ev_loadVA (z := 25) rfl rfl rfl hc2 hd2) ?_)
        conv => whnf
        with_reducible refine ⟨_, _, c1 _ _, ?_⟩
        conv => whnf
        (refine ⟨by kernel_rfl, ?_⟩)
        conv => whnf
        (refine ⟨by kernel_rfl, ?_⟩)
        conv => whnf
        (exact ih (IntKind.wrap .i64 (i + 1)) _ hst hmu (by kernel_rfl))
    · have c1 : ∀ (f : FuncId) (h : H), (evAll TE (m + 59)).1 f (.fn 11 [] []) _ h = some (.ret (.bool true), h) := cS1 (by rw [g1, g2, g3]; rfl)
      clear cS1 cS2
      rcases hd3 with ⟨rfl, rfl⟩ | ⟨dt, rfl⟩ <;> rcases hd4 with ⟨rfl, rfl⟩ | ⟨lt, rfl⟩ <;> rcases hd5 with ⟨rfl, rfl⟩ | ⟨dt', rfl⟩ <;> rcases hd6 with ⟨rfl, rfl⟩ | ⟨lt', rfl⟩
      all_goals
        conv => whnf
        (refine runK_ret (ev_indexSl (cells := nodesA L) (sz := 25) rfl rfl rfl rfl hI0 hlt) ?_)
        conv => whnf
        (refine runK_ret (ev_loadVA (z := 25) rfl rfl rfl hc1 hd1) ?_)
        conv => whnf
        ((with_reducible cases z0 : i == n) <;> try exact Bool.noConfusion (Eq.trans (Eq.symm z0) g1))
        conv => whnf
        ((with_reducible cases z1 : proc == Int.ofNat 6) <;> try exact Bool.noConfusion (Eq.trans (Eq.symm z1) g2))
        conv => whnf
        ((with_reducible cases z2 : stat == Int.ofNat 0) <;> try exact Bool.noConfusion (Eq.trans (Eq.symm z2) g3))
        conv => whnf
        (refine runK_ret (ev_indexSl (cells := nodesA ns) (sz := 25) rfl rfl rfl rfl hI0 hlt) ?_)
        conv => whnf
        (refine runK_ret (ev_loadVA (z := 25) rfl rfl rfl hc2 hd2) ?_)
        conv => whnf
        with_reducible refine ⟨_, _, c1 _ _, ?_⟩
        conv => whnf
        (refine ⟨by kernel_rfl, ?_⟩)
        conv => whnf
        (refine ⟨by kernel_rfl, ?_⟩)
        conv => whnf
        (exact ih (IntKind.wrap .i64 (i + 1)) _ hst hmu (by kernel_rfl))
    · have c1 : ∀ (f : FuncId) (h : H), (evAll TE (m + 59)).1 f (.fn 11 [] []) _ h = some (.ret (.bool true), h) := cS2 (by rw [g1, g2, g3]; rfl)
      clear cS1 cS2
      rcases hd3 with ⟨rfl, rfl⟩ | ⟨dt, rfl⟩ <;> rcases hd4 with ⟨rfl, rfl⟩ | ⟨lt, rfl⟩ <;> rcases hd5 with ⟨rfl, rfl⟩ | ⟨dt', rfl⟩ <;> rcases hd6 with ⟨rfl, rfl⟩ | ⟨lt', rfl⟩
      all_goals
        conv => whnf
        (refine runK_ret (ev_indexSl (cells := nodesA L) (sz := 25) rfl rfl rfl rfl hI0 hlt) ?_)
        conv => whnf
        (refine runK_ret (ev_loadVA (z := 25) rfl rfl rfl hc1 hd1) ?_)
        conv => whnf
        ((with_reducible cases z0 : i == n) <;> try exact Bool.noConfusion (Eq.trans (Eq.symm z0) g1))
        conv => whnf
        ((with_reducible cases z1 : proc == Int.ofNat 6) <;> try exact Bool.noConfusion (Eq.trans (Eq.symm z1) g2))
        conv => whnf
        ((with_reducible cases z2 : stat == Int.ofNat 0) <;> try exact Bool.noConfusion (Eq.trans (Eq.symm z2) g3))
        conv => whnf
        (refine runK_ret (ev_indexSl (cells := nodesA ns) (sz := 25) rfl rfl rfl rfl hI0 hlt) ?_)
        conv => whnf
        (refine runK_ret (ev_loadVA (z := 2) rfl rfl rfl hc3 hd3') ?_)
        conv => whnf
        (refine runK_ret (ev_indexSl (cells := nodesA ns) (sz := 25) rfl rfl rfl rfl hI0 hlt) ?_)
        conv => whnf
        (refine runK_ret (ev_loadVA (z := 25) rfl rfl rfl hc2 hd2) ?_)
        conv => whnf
        with_reducible refine ⟨_, _, c1 _ _, ?_⟩
        conv => whnf
        (refine ⟨by kernel_rfl, ?_⟩)
        conv => whnf
        (refine ⟨by kernel_rfl, ?_⟩)
        conv => whnf
        (exact ih (IntKind.wrap .i64 (i + 1)) _ hst hmu (by kernel_rfl))
end Go.Proofs.Ytnkeijebkpjdgaa.Ab
/- Over the engine: the law LookKeeps: a tree that may be stays one, and all that turns is the Read of the one file that is read. -/
namespace Go.Proofs.Ytnkeijebkpjdgaa.Ab
open Go Go.RowKit

set_option maxRecDepth 100000
theorem fit_clone {x : NodeS} (h : x.fit) : (cloneN x).fit := by
  obtain ⟨⟨h1, h2⟩, h3, h4⟩ := h
  refine ⟨⟨?_, ?_⟩, h3, h4⟩
  · rcases h1 with ⟨e, e2⟩ | ⟨t, e⟩
    · refine .inl ⟨?_, e2⟩
      show rowC _ _ x.data = .sl0
      rw [e]
      rfl
    · refine .inr ⟨true, ?_⟩
      show rowC _ _ x.data = _
      rw [e]
      rfl
  · rcases h2 with ⟨e, e2⟩ | ⟨t, e⟩
    · refine .inl ⟨?_, e2⟩
      show rowC _ _ x.list = .sl0
      rw [e]
      rfl
    · refine .inr ⟨true, ?_⟩
      show rowC _ _ x.list = _
      rw [e]
      rfl
theorem find_shape (ns : List NodeS) (o : Option (Int × Int)) : ∃ n e, findHA ns o = .tup [.int .i64 n, .int .u32 e] := by
  unfold findHA
  cases o with
  | none => exact ⟨_, _, rfl⟩
  | some p =>
    obtain ⟨n, g⟩ := p
    dsimp only
    split
    · exact ⟨_, _, rfl⟩
    · exact ⟨_, _, rfl⟩
set_option maxHeartbeats 4000000 in
/-- The law, abstractly. -/
theorem keeps17_law (m : Nat) (from_ : FuncId) (h : H) (x : CallS) (hx : x.ok) : evCall TE (m + 60) from_ (.fn 3 [] []) [callA x] h = some (.ret (.bool true), h) := by
  obtain ⟨g, hg, hG⟩ := great17_c (m + 54) x hx
  cases g with
  | true => exact keeps17_great m from_ h x hx hG
  | false =>
    have hlen := hg rfl
    have hfit : ∀ y ∈ x.t.ns, y.fit := fun y hy => ⟨(hx.t.ns y hy).1, (hx.t.ns y hy).2.bytesL, (hx.t.ns y hy).2.entsL⟩
    rcases hx.t.v with ⟨hnil, hnil2⟩ | ⟨t, hxv⟩
    · exact keeps17_none m from_ h x hx hG fun f h => by
        rw [hnil]
        exact check_nil (m + 47) f h x.t.gen
    have hKc := fun (f : FuncId) (h : H) => check_c (m + 47) f h x.t.ns t x.t.gen (fun y hy => ⟨(hx.t.ns y hy).1, (hx.t.ns y hy).2.few⟩) hx.t.len
    rw [← hxv] at hKc
    cases hck : checkS x.t.ns x.t.gen with
    | false =>
      rw [hck] at hKc
      exact keeps17_none m from_ h x hx hG hKc
    | true =>
      rw [hck] at hKc
      obtain ⟨L, r, hD, hL⟩ := look_all (m + 29) x.t.ns t x.t.gen x.c hx.c x.a hx.a x.ss x.sn x.bo hx.t.ns hck hx.name hx.offset.1 hx.count
      obtain ⟨n, e, hne⟩ := find_shape x.t.ns (getHS x.a.hl)
      have hF := fun (f : FuncId) (h : H) => find_c (m + 45) f h x.t.v x.t.ns hx.t.v x.t.gen x.a.h x.a.hl hx.a.h
      rw [hne] at hF
      have few2 : ∀ {y : NodeS}, y.few → (cloneN y).few := fun h => ⟨h.target, h.ents, h.entsL⟩
      rcases hL with ⟨rfl, hgood⟩ | ⟨hgood, n0, y, ⟨hf1, hf2, hf3⟩, hno, rfl⟩
      · have hK2 := fun (f : FuncId) (h : H) => check_c (m + 47) f h (x.t.ns.map cloneN) true x.t.gen (fun y hy => by
          obtain ⟨z, hz, rfl⟩ := List.mem_map.1 hy
          exact ⟨(fit_clone (hfit z hz)).1, few2 (hx.t.ns z hz).2.few⟩) (by rw [List.length_map]; exact hx.t.len)
        rw [checkS_clone, hck, List.length_map] at hK2
        refine keeps17_ok m from_ h x hx hG hKc t hxv _ r hD n e hF hK2 (List.length_map ..) (by rw [List.length_map]; exact hlen) (fun y hy => ?_) (fun y hy => (hfit y hy).1) (fun i a b ha hb hi hc f h => ?_) (fun i a b ha hb hi hc f h => ?_)
        · obtain ⟨z, hz, rfl⟩ := List.mem_map.1 hy
          exact (fit_clone (hfit z hz)).1
        · rw [List.getElem?_map, hb] at ha
          obtain rfl : cloneN b = a := Option.some.inj ha
          have hm := List.mem_of_getElem? hb
          have := sameNode_c (m + 57) f h (cloneN b) b (fit_clone (hfit b hm)).1 (hfit b hm).1 (hfit b hm).2.1 (by have := (hfit b hm).2.2; show b.ents.length ≤ _; omega)
          rw [show nodeEq (cloneN b) b = true from nodeEq_of ⟨rfl, rfl, rfl, rfl, rfl, rfl, rfl, rfl, rfl, rfl, rfl, rfl, rfl, rfl, rfl, rfl, rfl, rfl⟩] at this
          exact this
        · rw [hgood, Bool.and_false] at hc
          cases hc
      · have hnn : n = n0 := by
          rw [hf1] at hne
          injection hne with h1
          injection h1 with h2 h3
          injection h2 with h4 h5
          exact h5.symm
        subst hnn
        have hl3 : (((x.t.ns.map cloneN).map cloneN).set n.toNat (readN y x.ss x.sn)).length = x.t.ns.length := by simp
        have hfit3 : ∀ z ∈ ((x.t.ns.map cloneN).map cloneN).set n.toNat (readN y x.ss x.sn), z.ok ∧ z.few := fun z hz => by
          rcases List.mem_or_eq_of_mem_set hz with hz | rfl
          · rw [List.map_map] at hz
            obtain ⟨u, hu, rfl⟩ := List.mem_map.1 hz
            exact ⟨(fit_clone (fit_clone (hfit u hu))).1, few2 (few2 (hx.t.ns u hu).2.few)⟩
          · have hm := List.mem_of_getElem? hf3
            have q1 := (fit_clone (fit_clone (hfit y hm))).1
            have q2 := few2 (few2 (hx.t.ns y hm).2.few)
            exact ⟨q1, ⟨q2.target, q2.ents, q2.entsL⟩⟩
        have hK2 := fun (f : FuncId) (h : H) => check_c (m + 47) f h (((x.t.ns.map cloneN).map cloneN).set n.toNat (readN y x.ss x.sn)) true x.t.gen hfit3 (by rw [hl3]; exact hx.t.len)
        rw [read_check hck hf2 hf3 hno, hl3] at hK2
        obtain ⟨hn0, hn1, _⟩ := there_facts hf2
        refine keeps17_ok m from_ h x hx hG hKc t hxv _ r hD n e hF hK2 hl3 (by rw [hl3]; exact hlen) (fun z hz => (hfit3 z hz).1) (fun y hy => (hfit y hy).1) (fun i a b ha hb hi hc f h => ?_) (fun i a b ha hb hi hc f h => ?_)
        · have hin : i ≠ n := by
            rw [hgood, Bool.and_true] at hc
            simpa using hc
          rw [List.getElem?_set_ne (by omega), List.getElem?_map, List.getElem?_map, hb] at ha
          obtain rfl : cloneN (cloneN b) = a := Option.some.inj ha
          have hm := List.mem_of_getElem? hb
          have := sameNode_c (m + 57) f h (cloneN (cloneN b)) b (fit_clone (fit_clone (hfit b hm))).1 (hfit b hm).1 (hfit b hm).2.1 (by have := (hfit b hm).2.2; show b.ents.length ≤ _; omega)
          rw [nodeEq_twice] at this
          exact this
        · have hin : i = n := by
            rw [hgood, Bool.and_true] at hc
            simpa using hc
          subst hin
          rw [hf3] at hb
          obtain rfl : y = b := Option.some.inj hb
          rw [List.getElem?_set_self (by simp; omega)] at ha
          obtain rfl : readN y x.ss x.sn = a := Option.some.inj ha
          have hm := List.mem_of_getElem? hf3
          have := sameNode_c (m + 57) f h { readN y x.ss x.sn with rs := y.rs, rn := y.rn } y (fit_clone (fit_clone (hfit y hm))).1 (hfit y hm).1 (hfit y hm).2.1 (by have := (hfit y hm).2.2; show y.ents.length ≤ _; omega)
          rw [nodeEq_read] at this
          exact this
end Go.Proofs.Ytnkeijebkpjdgaa.Ab
