import Derived.Test.YtnkeijebkpjdgaaMLookReads17
import Derived.Test.YtnkeijebkpjdgaaMLookReads19
import Derived.Test.YtnkeijebkpjdgaaMLookReads13
import Derived.Test.YtnkeijebkpjdgaaMLookReads18
import Derived.Test.YtnkeijebkpjdgaaMLookReads15
import Derived.Test.YtnkeijebkpjdgaaMLookReads14
import Derived.Test.YtnkeijebkpjdgaaMLookReads16
set_option linter.unusedVariables false
set_option linter.unusedSimpArgs false
/- Over the engine: what only looks: the arguments of a procedure, its result. -/
namespace Go.Proofs.Ytnkeijebkpjdgaa.Ab
open Go Go.RowKit

set_option maxRecDepth 100000
/-- The arguments of a procedure. -/
structure ArgsS where
  proc : Int
  h : AV
  hl : List Int
  name : List UInt8
  h2 : AV
  h2l : List Int
  name2 : List UInt8
  set : SetS
  hasG : Bool
  gs : Int
  gn : Int
  bits : Int
  offset : Int
  count : Int
  max : Int
  stable : Int
  data : AV
  datal : List Int
  target : List UInt8
  how : Int
  kind : Int
  verf : Nat → Int
  cookie : Int
structure ArgsS.ok (a : ArgsS) : Prop where
  h : rowOk .u8 a.h a.hl
  h2 : rowOk .u8 a.h2 a.h2l
  data : rowOk .u8 a.data a.datal
def argL (a : ArgsS) : List AV := [.int .u32 a.proc, a.h, .str a.name, a.h2, .str a.name2, .bool a.set.hm, .int .u32 a.set.mode, .bool a.set.hu, .int .u32 a.set.user, .bool a.set.hg, .int .u32 a.set.group, .bool a.set.hs, .int .u64 a.set.size, .int .u32 a.set.rh, .int .u32 a.set.rs, .int .u32 a.set.rn, .int .u32 a.set.wh, .int .u32 a.set.ws, .int .u32 a.set.wn,
  .bool a.hasG, .int .u32 a.gs, .int .u32 a.gn, .int .u32 a.bits, .int .u64 a.offset, .int .u32 a.count, .int .u32 a.max, .int .u32 a.stable, a.data, .str a.target, .int .u32 a.how, .int .u32 a.kind, .int .u8 (a.verf 0), .int .u8 (a.verf 1), .int .u8 (a.verf 2), .int .u8 (a.verf 3), .int .u8 (a.verf 4), .int .u8 (a.verf 5), .int .u8 (a.verf 6), .int .u8 (a.verf 7), .int .u64 a.cookie]
def worldL (ss sn : Int) (bo : Nat → Int) : List AV := [.int .u32 ss, .int .u32 sn, .int .u8 (bo 0), .int .u8 (bo 1), .int .u8 (bo 2), .int .u8 (bo 3), .int .u8 (bo 4), .int .u8 (bo 5), .int .u8 (bo 6), .int .u8 (bo 7)]
def weak0 : List AV := [.bool false, .int .u64 0, .int .u32 0, .int .u32 0, .int .u32 0, .int .u32 0, .bool false] ++ attrs0
def verf0 : List AV := [.int .u8 0, .int .u8 0, .int .u8 0, .int .u8 0, .int .u8 0, .int .u8 0, .int .u8 0, .int .u8 0]
def longs0 : List AV := [.int .u64 0, .int .u64 0, .int .u64 0]
/-- A result. -/
structure ResS where
  stat : Int
  ha : Bool := false
  at_ : List AV := attrs0
  hd : Bool := false
  dir : List AV := attrs0
  one : List AV := weak0
  hh : Bool := false
  h : AV := .sl0
  bits : Int := 0
  count : Int := 0
  en : Bool := false
  data : AV := .sl0
  target : List UInt8 := []
  verf : List AV := verf0
  space : List AV := longs0
  slots : List AV := longs0
def ansA (p : Int) (r : ResS) : List AV := [.int .u32 p, .int .u32 r.stat, .bool r.ha] ++ r.at_ ++ [.bool r.hd] ++ r.dir ++ r.one ++ weak0 ++ [.bool r.hh, r.h, .int .u32 r.bits, .int .u32 r.count, .bool r.en, r.data, .str r.target, .int .u32 0] ++ r.verf ++ [.sl0] ++ r.space ++ r.slots
theorem oneL_app : ∀ a b : List AV, oneL (a ++ b) = (oneL a && oneL b)
  | [], _ => rfl
  | v :: r, b => by
    show (oneA v && oneL (r ++ b)) = ((oneA v && oneL r) && oneL b)
    rw [oneL_app r b, Bool.and_assoc]
theorem rowOne {k : IntKind} {v : AV} {l : List Int} (h : rowOk k v l) : oneA v = true := by
  rcases h with ⟨rfl, _⟩ | ⟨t, rfl⟩ <;> rfl
theorem args_one {a : ArgsS} (ha : a.ok) : oneL (argL a) = true := by
  have h1 := rowOne ha.h
  have h2 := rowOne ha.h2
  have h3 := rowOne ha.data
  simp [argL, oneL, oneA] at *
  simp_all [oneA]
theorem args_top {a : ArgsS} (ha : a.ok) : topL (argL a) = 0 := by
  have h1 := clean_top _ (row_clean ha.h)
  have h2 := clean_top _ (row_clean ha.h2)
  have h3 := clean_top _ (row_clean ha.data)
  simp [argL, topL, AV.top, h1, h2, h3]
def doesS (p : Int) : Bool := p == 0 || (p == 1 || (p == 3 || (p == 4 || (p == 5 || (p == 6 || (p == 18 || (p == 19 || (p == 20 || p == 21))))))))
def procsM : List (AV × AV) := [(.int .u32 1, .fn 53 [] []), (.int .u32 3, .fn 54 [] []), (.int .u32 4, .fn 55 [] []), (.int .u32 5, .fn 56 [] []), (.int .u32 6, .fn 57 [] []),
  (.int .u32 18, .fn 58 [] []), (.int .u32 19, .fn 53 [] []), (.int .u32 20, .fn 53 [] []), (.int .u32 21, .fn 59 [] [])]
theorem find_miss {p : Int} : ∀ (l : List (Int × AV)) (i : Nat), (∀ e ∈ l, (p == e.1) = false) → findA (.int .u32 p) (l.map fun e => (.int .u32 e.1, e.2)) i = some none
  | [], _, _ => rfl
  | e :: r, i, h => by
    show (match sameCell (.int .u32 p) (.int .u32 e.1) with | some true => _ | some false => _ | none => _) = _
    simp only [sameCell, h e (List.mem_cons_self ..), if_true]
    exact find_miss r (i + 1) fun e he => h e (List.mem_cons_of_mem _ he)
theorem procs_none {p : Int} (h : doesS p = false) : findA (.int .u32 p) procsM 0 = some none := by
  unfold doesS at h
  simp only [Bool.or_eq_false_iff] at h
  refine find_miss (p := p) [(1, _), (3, _), (4, _), (5, _), (6, _), (18, _), (19, _), (20, _), (21, _)] 0 ?_
  intro e he
  simp only [List.mem_cons, List.not_mem_nil, or_false] at he
  rcases he with rfl | rfl | rfl | rfl | rfl | rfl | rfl | rfl | rfl <;> simp_all
theorem does_c (m : Nat) (from_ : FuncId) (h : H) (p : Int) : evCall TE (m + 2) from_ (.fn 32 [] []) [.int .u32 p] h = some (.ret (.bool (doesS p)), h) := by
  cases hd : doesS p with
  | true =>
    unfold doesS at hd
    simp only [Bool.or_eq_true, beq_iff_eq] at hd
    rcases hd with rfl | rfl | rfl | rfl | rfl | rfl | rfl | rfl | rfl | rfl <;> kernel_rfl
  | false =>
    have hf := procs_none hd
    have h0 : (p == 0) = false := by
      unfold doesS at hd
      simp only [Bool.or_eq_false_iff] at hd
      exact hd.1
    refine call_clean (fn := Try.f32) rfl Try.func32 rfl rfl rfl rfl rfl (Nat.le_of_ble_eq_true rfl) ?_
    conv => whnf
    ((with_reducible cases z0 : p == Int.ofNat 0) <;> try exact Bool.noConfusion (Eq.trans (Eq.symm z0) h0))
    conv => whnf
    (refine call_raw (fn := Try.f31) rfl Try.func31 rfl rfl (Nat.le_of_ble_eq_true rfl) ?_)
    conv => whnf
    (refine runK_ret (v := .fn0) (w := .none) (by show (match findA (.int .u32 p) procsM 0 with | some (some (_, v)) => _ | some none => _ | none => _) = _; rw [hf]; rfl) ?_)
    conv => whnf
    rfl
end Go.Proofs.Ytnkeijebkpjdgaa.Ab
/- Over the engine: no tree of no nodes. -/
namespace Go.Proofs.Ytnkeijebkpjdgaa.Ab
open Go Go.RowKit

set_option maxRecDepth 100000
end Go.Proofs.Ytnkeijebkpjdgaa.Ab
/- Over the engine: what only looks: what is refused. -/
namespace Go.Proofs.Ytnkeijebkpjdgaa.Ab
open Go Go.RowKit

set_option maxRecDepth 100000
def credL (c : CredS) : List AV := [.int .u32 c.user, .int .u32 c.group, c.gs]
theorem cred_one {c : CredS} (hc : c.ok) : oneL (credL c) = true := by
  have h := rowOne hc.1
  show (true && (true && (oneA c.gs && true))) = true
  rw [h]
  rfl
theorem cred_top {c : CredS} (hc : c.ok) : topL (credL c) = 0 := by
  have h := clean_top _ (row_clean hc.1)
  show max 0 (max 0 (max c.gs.top 0)) = 0
  rw [h]
  rfl
/-! A region in which a function that makes blocks of its own is called beside a load. -/
/-- A call as it goes. -/
def workL (ns : List NodeS) (gen : Int) (c : CredS) (a : ArgsS) (ss sn : Int) (bo : Nat → Int) : List AV := [.sl (nodesA (ns.map cloneN)) ns.length true, .int .u32 gen] ++ (credL c ++ (argL a ++ (worldL ss sn bo ++ ([.int .i64 0] ++ ansA a.proc { stat := 0 }))))
theorem work_one {ns : List NodeS} {gen : Int} {c : CredS} {a : ArgsS} {ss sn : Int} {bo : Nat → Int} (hc : c.ok) (ha : a.ok) : oneL (workL ns gen c a ss sn bo) = true := by
  unfold workL
  rw [oneL_app, oneL_app, oneL_app, oneL_app, oneL_app, cred_one hc, args_one ha]
  rfl
theorem work_top {ns : List NodeS} {gen : Int} {c : CredS} {a : ArgsS} {ss sn : Int} {bo : Nat → Int} (hc : c.ok) (ha : a.ok) : topL (workL ns gen c a ss sn bo) = 0 := by
  unfold workL
  rw [topL_app, topL_app, topL_app, topL_app, topL_app, cred_top hc, args_top ha]
  rfl
end Go.Proofs.Ytnkeijebkpjdgaa.Ab
/- Over the engine: what a tree that may be has, in plain words. -/
namespace Go.Proofs.Ytnkeijebkpjdgaa.Ab
open Go Go.RowKit

theorem anyBad_of {ns : List NodeS} {x : NodeS} (hx : x ∈ ns) (h : onlyS x = false) : anyBad ns = true := by
  unfold anyBad
  exact List.any_eq_true.2 ⟨x, hx, by rw [h]; rfl⟩
theorem checkS_has {ns : List NodeS} {tg : Int} (h : checkS ns tg = true) : preBad ns = false ∧ anyBad ns = false ∧ ∃ c, pass1 ns tg ns 0 [] (cnt0 ns.length) = some c ∧ pass2 ns c ns 0 = true := by
  unfold checkS at h
  rw [Bool.and_eq_true, Bool.and_eq_true, Bool.not_eq_true', Bool.not_eq_true'] at h
  refine ⟨h.1, h.2.1, ?_⟩
  cases hp : pass1 ns tg ns 0 [] (cnt0 ns.length) with
  | none => rw [hp] at h; simp at h
  | some c =>
    rw [hp] at h
    exact ⟨c, rfl, h.2.2⟩
/-- A node that is bad whatever was counted. -/
theorem pass1_bad {ns : List NodeS} {tg : Int} : ∀ (l : List NodeS) (i : Int) (g : List Int) (c : Cnt), (∃ x, x ∈ l ∧ (x.kind != 0) = true ∧ ∀ g, nodeBad ns tg g x = true) → pass1 ns tg l i g c = none
  | [], _, _, _, ⟨x, hx, _⟩ => by cases hx
  | y :: r, i, g, c, ⟨x, hx, hk, hb⟩ => by
    rw [pass1]
    rcases List.mem_cons.1 hx with rfl | hx
    · rw [if_pos hk, if_pos (hb g)]
    · split
      · split
        · rfl
        · exact pass1_bad r _ _ _ ⟨x, hx, hk, hb⟩
      · exact pass1_bad r _ _ _ ⟨x, hx, hk, hb⟩
end Go.Proofs.Ytnkeijebkpjdgaa.Ab
/- Over the engine: a node that is turned, but for its kind. -/
namespace Go.Proofs.Ytnkeijebkpjdgaa.Ab
open Go Go.RowKit

section
variable {ns : List NodeS} {n : Nat} {x x' : NodeS} (hx : ns[n]? = some x) (hk : x'.kind = x.kind)
include hx hk
theorem kindS_set (d : Int) : kindS (ns.set n x') d = kindS ns d := by
  obtain ⟨h1, _⟩ := List.getElem?_eq_some_iff.1 hx
  unfold kindS
  by_cases hd : n = d.toNat
  · subst hd
    rw [List.getElem?_set_self h1, hx]
    exact hk
  · rw [List.getElem?_set_ne hd]
theorem thereS_set (d : Int) : thereS (ns.set n x') d = thereS ns d := by
  unfold thereS
  rw [kindS_set hx hk, List.length_set]
theorem dirS_set (d : Int) : dirS (ns.set n x') d = dirS ns d := by
  unfold dirS
  rw [thereS_set hx hk, kindS_set hx hk]
theorem entBad_set (next : Int) (prev : List EntryS) (la : Int) (e : EntryS) : entBad (ns.set n x') next prev la e = entBad ns next prev la e := by
  unfold entBad
  rw [thereS_set hx hk]
theorem entsBad_set (next : Int) : ∀ (l prev : List EntryS) (la : Int), entsBad (ns.set n x') next prev la l = entsBad ns next prev la l
  | [], _, _ => rfl
  | e :: r, prev, la => by rw [entsBad, entsBad, entBad_set hx hk, entsBad_set next r]
theorem entriesS_set (d : NodeS) : entriesS (ns.set n x') d = entriesS ns d := by
  unfold entriesS
  rw [entsBad_set hx hk]
theorem stepE_set (i : Int) (c : Cnt) (e : EntryS) : stepE (ns.set n x') i c e = stepE ns i c e := by
  unfold stepE
  rw [dirS_set hx hk]
theorem cntE_set (i : Int) : ∀ (l : List EntryS) (c : Cnt), cntE (ns.set n x') i c l = cntE ns i c l
  | [], _ => rfl
  | e :: r, c => by rw [cntE, cntE, stepE_set hx hk, cntE_set i r]
theorem nodeBad_set (tg : Int) (g : List Int) (y : NodeS) : nodeBad (ns.set n x') tg g y = nodeBad ns tg g y := by
  unfold nodeBad
  rw [entriesS_set hx hk]
end
/-- Nodes that the first pass takes for the same. -/
structure LikeP (x y : NodeS) : Prop where
  kind : x.kind = y.kind
  gen : x.gen = y.gen
  mode : x.mode = y.mode
  rn : x.rn = y.rn
  wn : x.wn = y.wn
  tn : x.tn = y.tn
  ents : x.ents = y.ents
  next : x.next = y.next
theorem pass1_ns {ns : List NodeS} {n : Nat} {x x' : NodeS} {tg : Int} (hx : ns[n]? = some x) (hk : x'.kind = x.kind) : ∀ (l : List NodeS) (i : Int) (g : List Int) (c : Cnt), pass1 (ns.set n x') tg l i g c = pass1 ns tg l i g c
  | [], _, _, _ => rfl
  | y :: r, i, g, c => by
    rw [pass1, pass1, nodeBad_set hx hk, cntE_set hx hk, pass1_ns hx hk r, pass1_ns hx hk r]
end Go.Proofs.Ytnkeijebkpjdgaa.Ab
/- Over the engine: a clone of a tree is one that may be as the tree is. -/
namespace Go.Proofs.Ytnkeijebkpjdgaa.Ab
open Go Go.RowKit

theorem kindS_clone (ns : List NodeS) (d : Int) : kindS (ns.map cloneN) d = kindS ns d := by
  unfold kindS
  rw [List.getElem?_map]
  cases ns[d.toNat]? <;> rfl
theorem parentS_clone (ns : List NodeS) (d : Int) : parentS (ns.map cloneN) d = parentS ns d := by
  unfold parentS
  rw [List.getElem?_map]
  cases ns[d.toNat]? <;> rfl
theorem thereS_clone (ns : List NodeS) (d : Int) : thereS (ns.map cloneN) d = thereS ns d := by
  unfold thereS
  rw [kindS_clone, List.length_map]
theorem dirS_clone (ns : List NodeS) (d : Int) : dirS (ns.map cloneN) d = dirS ns d := by
  unfold dirS
  rw [thereS_clone, kindS_clone]
theorem entBad_clone (ns : List NodeS) (next : Int) (prev : List EntryS) (la : Int) (e : EntryS) : entBad (ns.map cloneN) next prev la e = entBad ns next prev la e := by
  unfold entBad
  rw [thereS_clone]
theorem entsBad_clone (ns : List NodeS) (next : Int) : ∀ (l prev : List EntryS) (la : Int), entsBad (ns.map cloneN) next prev la l = entsBad ns next prev la l
  | [], _, _ => rfl
  | e :: r, prev, la => by rw [entsBad, entsBad, entBad_clone, entsBad_clone ns next r]
theorem entriesS_clone (ns : List NodeS) (d : NodeS) : entriesS (ns.map cloneN) d = entriesS ns d := by
  unfold entriesS
  rw [entsBad_clone]
theorem cntE_clone (ns : List NodeS) (i : Int) : ∀ (l : List EntryS) (c : Cnt), cntE (ns.map cloneN) i c l = cntE ns i c l
  | [], _ => rfl
  | e :: r, c => by
    rw [cntE, cntE, cntE_clone ns i r]
    congr 1
    unfold stepE
    rw [dirS_clone]
theorem withinS_clone (ns : List NodeS) (top : Int) : ∀ (k : Nat) (d : Int), withinS (ns.map cloneN) top k d = withinS ns top k d
  | 0, _ => rfl
  | k + 1, d => by rw [withinS, withinS, dirS_clone, parentS_clone, withinS_clone ns top k]
theorem nodeBad_clone (ns : List NodeS) (tg : Int) (g : List Int) (x : NodeS) : nodeBad (ns.map cloneN) tg g (cloneN x) = nodeBad ns tg g x := by
  unfold nodeBad
  rw [entriesS_clone]
  rfl
theorem pass1_clone (ns : List NodeS) (tg : Int) : ∀ (l : List NodeS) (i : Int) (g : List Int) (c : Cnt), pass1 (ns.map cloneN) tg (l.map cloneN) i g c = pass1 ns tg l i g c
  | [], _, _, _ => rfl
  | x :: r, i, g, c => by
    rw [List.map_cons, pass1, pass1, nodeBad_clone, cntE_clone, pass1_clone ns tg r, pass1_clone ns tg r]
    rfl
theorem nodeBad2_clone (ns : List NodeS) (c : Cnt) (i : Int) (x : NodeS) : nodeBad2 (ns.map cloneN) c i (cloneN x) = nodeBad2 ns c i x := by
  unfold nodeBad2
  rw [withinS_clone, List.length_map]
  rfl
theorem pass2_clone (ns : List NodeS) (c : Cnt) : ∀ (l : List NodeS) (i : Int), pass2 (ns.map cloneN) c (l.map cloneN) i = pass2 ns c l i
  | [], _ => rfl
  | x :: r, i => by
    rw [List.map_cons, pass2, pass2, nodeBad2_clone, pass2_clone ns c r]
    rfl
theorem checkS_clone (ns : List NodeS) (tg : Int) : checkS (ns.map cloneN) tg = checkS ns tg := by
  unfold checkS preBad anyBad
  rw [List.length_map, kindS_clone, dirS_clone, parentS_clone, thereS_clone, pass1_clone, List.any_map]
  simp only [pass2_clone]
  rfl
end Go.Proofs.Ytnkeijebkpjdgaa.Ab
/- Over the engine: what is told of a node ahead of a call and behind it. -/
namespace Go.Proofs.Ytnkeijebkpjdgaa.Ab
open Go Go.RowKit

set_option maxRecDepth 100000
def weakA (x y : NodeS) (n : Int) : List AV := [.bool true, .int .u64 (IntKind.wrap .u64 (sizeS x)), .int .u32 x.ws, .int .u32 x.wn, .int .u32 x.ts, .int .u32 x.tn, .bool true] ++ attrsS y n
end Go.Proofs.Ytnkeijebkpjdgaa.Ab
/- Over the engine: what only looks: attributes, what may be, links, commits. -/
namespace Go.Proofs.Ytnkeijebkpjdgaa.Ab
open Go Go.RowKit

set_option maxRecDepth 100000
end Go.Proofs.Ytnkeijebkpjdgaa.Ab
/- Over the engine: what only looks: names that are looked up. -/
namespace Go.Proofs.Ytnkeijebkpjdgaa.Ab
open Go Go.RowKit

set_option maxRecDepth 100000
end Go.Proofs.Ytnkeijebkpjdgaa.Ab
/- Over the engine: what only looks: how much there is. -/
namespace Go.Proofs.Ytnkeijebkpjdgaa.Ab
open Go Go.RowKit

set_option maxRecDepth 100000
/-- What is left, bytes and nodes. -/
def statS : List NodeS → Int → Int → Int × Int
  | [], b, s => (b, s)
  | x :: r, b, s => statS r (IntKind.wrap .u64 (b - IntKind.wrap .u64 x.bytes.length)) (if (x.kind != 0) = true then IntKind.wrap .u64 (s - 1) else s)
end Go.Proofs.Ytnkeijebkpjdgaa.Ab
/- Over the engine: what only looks: what is read. -/
namespace Go.Proofs.Ytnkeijebkpjdgaa.Ab
open Go Go.RowKit

set_option maxRecDepth 100000
end Go.Proofs.Ytnkeijebkpjdgaa.Ab
