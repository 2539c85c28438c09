import Derived.Test.YtbebcbcnibfbhaaEQ
/- The engine, eighteenth text: what an operation reads; two that do not meet. -/
namespace Go.Proofs.Ytbebcbcnibfbhaa.Ab
open Go

/-! Values that are told alike are alike. -/
mutual
theorem AV.same_eq : ∀ (a b : AV), a.same b = true → a = b := by
  intro a b h
  cases a with
  | bool x => cases b with
    | bool y => simp [AV.same] at h; rw [h]
    | _ => simp [AV.same] at h
  | int k x => cases b with
    | int k' y => simp [AV.same] at h; rw [h.1, h.2]
    | _ => simp [AV.same] at h
  | str x => cases b with
    | str y => simp [AV.same] at h; rw [h]
    | _ => simp [AV.same] at h
  | ptr0 => cases b with
    | ptr0 => rfl
    | _ => simp [AV.same] at h
  | sl0 => cases b with
    | sl0 => rfl
    | _ => simp [AV.same] at h
  | map0 => cases b with
    | map0 => rfl
    | _ => simp [AV.same] at h
  | fn0 => cases b with
    | fn0 => rfl
    | _ => simp [AV.same] at h
  | ifc0 => cases b with
    | ifc0 => rfl
    | _ => simp [AV.same] at h
  | hole => simp [AV.same] at h
  | ref x y z => cases b with
    | ref x' y' z' => simp [AV.same] at h; rw [h.1.1, h.1.2, h.2]
    | _ => simp [AV.same] at h
  | rsl x y z u v => cases b with
    | rsl x' y' z' u' v' => simp [AV.same] at h; rw [h.1.1.1.1, h.1.1.1.2, h.1.1.2, h.1.2, h.2]
    | _ => simp [AV.same] at h
  | mref x => cases b with
    | mref y => simp [AV.same] at h; rw [h]
    | _ => simp [AV.same] at h
  | yc x => cases b with
    | yc y => simp [AV.same] at h; rw [h]
    | _ => simp [AV.same] at h
  | vref c o => cases b with
    | vref c' o' => simp [AV.same] at h; rw [sameL_eq c c' h.1, h.2]
    | _ => simp [AV.same] at h
  | sl c n t => cases b with
    | sl c' n' t' => simp [AV.same] at h; rw [sameL_eq c c' h.1.1, h.1.2, h.2]
    | _ => simp [AV.same] at h
  | fn f x y => cases b with
    | fn f' x' y' => simp [AV.same] at h; rw [h.1.1, sameL_eq x x' h.1.2, sameL_eq y y' h.2]
    | _ => simp [AV.same] at h
  | ifc t x => cases b with
    | ifc t' x' => simp [AV.same] at h; rw [h.1, AV.same_eq x x' h.2]
    | _ => simp [AV.same] at h
  | agg x => cases b with
    | agg x' => simp [AV.same] at h; rw [sameL_eq x x' h]
    | _ => simp [AV.same] at h
  | tup x => cases b with
    | tup x' => simp [AV.same] at h; rw [sameL_eq x x' h]
    | _ => simp [AV.same] at h
theorem sameL_eq : ∀ (a b : List AV), sameL a b = true → a = b := by
  intro a b h
  cases a with
  | nil => cases b with
    | nil => rfl
    | cons _ _ => simp [sameL] at h
  | cons x a => cases b with
    | nil => simp [sameL] at h
    | cons y b => simp [sameL] at h; rw [AV.same_eq x y h.1, sameL_eq a b h.2]
end

/-! What is read. -/
def agree (h h' : List AB) : RL → Prop
  | .cells b off n => ∀ c i, h[b]? = some (.cells c i) → ∃ c' i', h'[b]? = some (.cells c' i') ∧ c'.length = c.length ∧ (c'.drop off).take n = (c.drop off).take n
  | .info b => ∀ c i, h[b]? = some (.cells c i) → ∃ c', h'[b]? = some (.cells c' i) ∧ c'.length = c.length
  | .blk b => h'[b]? = h[b]?
  | .all => False
theorem take1_get {c c' : List AV} {off : Nat} (h : (c'.drop off).take 1 = (c.drop off).take 1) : c'[off]? = c[off]? := by
  have h2 := congrArg (fun l => l[0]?) h
  simpa using h2
theorem run_agree {α : Type} {h h' : List AB} : ∀ (m : AM α) (r : α), m.run h = some r → (∀ x ∈ m.reads h, agree h h' x) → m.run h' = some r ∧ m.reads h' = m.reads h
  | .ret a, r, hm, _ => ⟨hm, rfl⟩
  | .fail, r, hm, _ => (fail_run hm).elim
  | .cells b off n k, r, hm, ha => by
    obtain ⟨c, i, hb, hl, hm⟩ := cells_run hm
    simp only [AM.reads, hb, List.mem_cons] at ha
    obtain ⟨c', i', hb', hl', hs⟩ := ha _ (.inl rfl) c i hb
    obtain ⟨h1, h2⟩ := run_agree (k ((c.drop off).take n)) r hm fun x hx => ha x (.inr hx)
    refine ⟨?_, ?_⟩
    · simp only [AM.run, hb', hl', if_pos hl, hs, h1]
    · simp only [AM.reads, hb', hb, hs, h2]
  | .cell b off k, r, hm, ha => by
    obtain ⟨c, i, v, hb, hv, hm⟩ := cell_run hm
    simp only [AM.reads, hb, hv, List.mem_cons] at ha
    obtain ⟨c', i', hb', hl', hs⟩ := ha _ (.inl rfl) c i hb
    have hv' := (take1_get hs).trans hv
    obtain ⟨h1, h2⟩ := run_agree (k v) r hm fun x hx => ha x (.inr hx)
    refine ⟨?_, ?_⟩
    · simp only [AM.run, hb', hv', h1]
    · simp only [AM.reads, hb', hb, hv, hv', h2]
  | .info b k, r, hm, ha => by
    obtain ⟨c, i, hb, hm⟩ := info_run hm
    simp only [AM.reads, hb, List.mem_cons] at ha
    obtain ⟨c', hb', hl'⟩ := ha _ (.inl rfl) c i hb
    obtain ⟨h1, h2⟩ := run_agree (k i c.length) r hm fun x hx => ha x (.inr hx)
    refine ⟨?_, ?_⟩
    · simp only [AM.run, hb', hl', h1]
    · simp only [AM.reads, hb', hb, hl', h2]
  | .blk b k, r, hm, ha => by
    obtain ⟨x, hb, hm⟩ := blk_run hm
    simp only [AM.reads, hb, List.mem_cons] at ha
    have hb' : h'[b]? = h[b]? := ha _ (.inl rfl)
    obtain ⟨h1, h2⟩ := run_agree (k x) r hm fun x hx => ha x (.inr hx)
    refine ⟨?_, ?_⟩
    · simp only [AM.run, hb', hb, h1]
    · simp only [AM.reads, hb', hb, h2]

/-! An operation hangs on its operands alone. -/
theorem evOp_congr {P : Program} {flat : TypeId → Option (List Nat)} {nid : Nat} {op : Op} {ρ ρ' : Operand → AV} (h : ∀ x ∈ op.operands, ρ x = ρ' x) : evOp P flat nid op ρ = evOp P flat nid op ρ' := by
  have pairs : ∀ ps : Array (Nat × Operand), (∀ x ∈ ps.toList.map (·.2), ρ x = ρ' x) → (ps.toList.map fun p => (p.1, ρ p.2)) = (ps.toList.map fun p => (p.1, ρ' p.2)) := fun ps hp =>
    List.map_congr_left fun p hm => by rw [hp p.2 (List.mem_map.2 ⟨p, hm, rfl⟩)]
  have many : ∀ l : Array Operand, (∀ x ∈ l, ρ x = ρ' x) → l.toList.map ρ = l.toList.map ρ' := fun l hl => List.map_congr_left fun x hx => hl x (by simpa using hx)
  cases op with
  | build t ps =>
    simp only [Op.operands] at h
    simp only [evOp, pairs ps fun x hx => h x (by simpa using hx)]
  | buildSlice t n ps =>
    simp only [Op.operands] at h
    simp only [evOp, pairs ps fun x hx => h x (by simpa using hx)]
  | makeFunc fn a b =>
    simp only [Op.operands] at h
    cases fn <;> simp only [evOp]
    rw [many a fun x hx => h x (by simp [hx]), many b fun x hx => h x (by simp [hx])]
  | call c =>
    simp only [Op.operands, Call.operands] at h
    simp only [evOp]
    rw [many c.args fun x hx => h x (by simp [hx])]
  | makeMap t r =>
    simp only [Op.operands] at h
    cases r with
    | none => rfl
    | some x => simp only [evOp, h x (by simp)]
  | slice t x lo hi mx =>
    simp only [Op.operands] at h
    simp only [evOp, h x (by simp)]
    have e1 : lo.map ρ = lo.map ρ' := by cases lo <;> simp_all
    have e2 : hi.map ρ = hi.map ρ' := by cases hi <;> simp_all
    have e3 : mx.map ρ = mx.map ρ' := by cases mx <;> simp_all
    rw [e1, e2, e3]
  | _ =>
    simp only [Op.operands] at h
    first
      | rfl
      | (simp only [evOp]; simp_all; done)

/-! Slots -/
theorem RT.put_comm (v u : AV) : ∀ (t : RT) (d e : Nat), d ≠ e → (t.put v d).put u e = (t.put u e).put v d
  | .leaf, _, _, _ => rfl
  | .node x l r, d, e, h => by
    simp only [RT.put]
    cases h1 : Nat.beq d 1 with
    | true =>
      cases h2 : Nat.beq e 1 with
      | true => exact absurd ((Nat.eq_of_beq_eq_true h1).trans (Nat.eq_of_beq_eq_true h2).symm) h
      | false =>
        simp only [cond_true, cond_false]
        cases h3 : Nat.beq (e % 2) 0 <;> simp only [cond_true, cond_false, RT.put, h1, h2, h3]
    | false =>
      cases h2 : Nat.beq e 1 with
      | true =>
        simp only [cond_true, cond_false]
        cases h3 : Nat.beq (d % 2) 0 <;> simp only [cond_true, cond_false, RT.put, h1, h2, h3]
      | false =>
        simp only [cond_false]
        cases h3 : Nat.beq (d % 2) 0 <;> cases h4 : Nat.beq (e % 2) 0 <;> simp only [cond_true, cond_false, RT.put, h1, h2, h3, h4]
        · have h5 : d % 2 ≠ 0 := fun e => by rw [e] at h3; cases h3
          have h6 : e % 2 ≠ 0 := fun e => by rw [e] at h4; cases h4
          rw [RT.put_comm v u r _ _ (by omega)]
        · have h5 := Nat.eq_of_beq_eq_true h3
          have h6 := Nat.eq_of_beq_eq_true h4
          rw [RT.put_comm v u l _ _ (by omega)]
theorem RG.put_comm (r : RG) {i j : Nat} (v u : AV) (h : i ≠ j) : (r.put i v).put j u = (r.put j u).put i v := by
  unfold RG.put
  cases h1 : Nat.blt i r.n <;> cases h2 : Nat.blt j r.n <;> simp only [cond_true, cond_false, h1, h2]
  rw [RT.put_comm v u _ _ _ (by omega)]
theorem RG.get_put_other (r : RG) {i j : Nat} (v : AV) (h : j ≠ i) : (r.put i v).get j = r.get j := by
  rcases RG.get_put r i v j with ⟨_, g⟩ | ⟨g, _⟩ | ⟨g, _⟩
  · exact g
  · exact absurd g h
  · exact absurd g h
theorem putT_comm (r : RG) {d e : Option Tmp} (v u : AV) (h : ∀ i, d = some i → e ≠ some i) : putT (putT r d v) e u = putT (putT r e u) d v := by
  cases d with
  | none => rfl
  | some i => cases e with
    | none => rfl
    | some j => exact RG.put_comm r v u fun e => h i rfl (by rw [e])

/-! What two operations do, in either order. -/
def addE (bs : List AB) (nid : Nat) : WL → List (Nat × Nat)
  | .none => []
  | .new b => if nid = bs.length then [] else if b.top ≤ nid + 1 then [] else [(nid, b.top)]
  | .put b _ vs => match bs[b]? with
    | some (.cells ..) => if topL vs ≤ b + 1 then [] else [(b, topL vs)]
    | _ => []
  | .blk b x => match x with
    | .cells _ i => if i.cl then [] else [(b, bs.length)]
    | .dead => []
    | .void => []
    | _ => [(b, bs.length)]
theorem app_esc (h : H) (nid : Nat) (w : WL) : (h.app nid w).esc = addE h.bs nid w ++ h.esc := by
  cases w with
  | none => rfl
  | new b =>
    simp only [H.app, addE]
    split
    · rfl
    · simp only
      split <;> rfl
  | put b off vs =>
    simp only [H.app, addE]
    cases hb : h.bs[b]? with
    | none => rfl
    | some x =>
      cases x with
      | cells c i =>
        simp only
        split <;> rfl
      | _ => rfl
  | blk b x =>
    cases x with
    | cells c i => simp only [H.app, addE]; cases i.cl <;> rfl
    | _ => rfl
theorem books_add {nid : Nat} {w : WL} (h : w.books nid = false) (bs : List AB) : addE bs nid w = [] := by
  cases w with
  | none => rfl
  | new b =>
    simp only [WL.books, Bool.not_eq_false', decide_eq_true_eq] at h
    simp only [addE, if_pos h]
    split <;> rfl
  | put b off vs =>
    simp only [WL.books, Bool.not_eq_false', decide_eq_true_eq] at h
    simp only [addE, if_pos h]
    split <;> rfl
  | blk b x =>
    cases x with
    | cells c i =>
      simp only [WL.books, Bool.not_eq_false'] at h
      simp [addE, h]
    | _ => simp [WL.books] at h
theorem splice_comm (c : List AV) {off off' : Nat} {vs vs' : List AV} (h : off + vs.length ≤ off' ∨ off' + vs'.length ≤ off) : splice (splice c off vs) off' vs' = splice (splice c off' vs') off vs := by
  apply List.ext_getElem?
  intro j
  simp only [splice_get, splice_len]
  split <;> split <;> first | rfl | omega
theorem splice_part (c : List AV) {off n off' : Nat} {vs : List AV} (h : off + n ≤ off' ∨ off' + vs.length ≤ off) : ((splice c off' vs).drop off).take n = (c.drop off).take n := by
  apply List.ext_getElem?
  intro j
  rw [List.getElem?_take, List.getElem?_take]
  split
  · rw [List.getElem?_drop, List.getElem?_drop, splice_get, if_neg (by omega)]
  · rfl
theorem appBs_len (bs : List AB) (nid : Nat) (w : WL) (hn : ∀ x, w = .new x → nid < bs.length) : (appBs bs nid w).length = bs.length := by
  cases w with
  | none => rfl
  | new b =>
    have := hn b rfl
    simp only [appBs, H.app]
    rw [if_neg (by omega)]
    simp
  | put b off vs =>
    simp only [appBs, H.app]
    split <;> simp
  | blk b x => simp [appBs, H.app]
theorem appBs_new {bs : List AB} {nid : Nat} (x : AB) (h : nid < bs.length) : appBs bs nid (.new x) = bs.set nid x := by
  simp only [appBs, H.app]
  rw [if_neg (by omega)]
/-- At another block than the one that is written. -/
def WL.at_ (nid : Nat) : WL → Option Nat
  | .none => Option.none
  | .new _ => some nid
  | .put b _ _ => some b
  | .blk b _ => some b
theorem appBs_other {bs : List AB} {nid : Nat} {w : WL} (hn : ∀ x, w = .new x → nid < bs.length) {b : Nat} (h : w.at_ nid ≠ some b) : (appBs bs nid w)[b]? = bs[b]? := by
  cases w with
  | none => rfl
  | new x =>
    rw [appBs_new x (hn x rfl), List.getElem?_set, if_neg fun e => h (by rw [← e]; rfl)]
  | put d off vs =>
    simp only [appBs, H.app]
    split
    · simp only
      rw [List.getElem?_set, if_neg fun e => h (by rw [← e]; rfl)]
    · rfl
  | blk d x =>
    simp only [appBs, H.app]
    rw [List.getElem?_set, if_neg fun e => h (by rw [← e]; rfl)]
/-- What is set at its block. -/
theorem appBs_set (bs : List AB) (nid : Nat) (w : WL) (hn : ∀ x, w = .new x → nid < bs.length) : appBs bs nid w = bs ∨ ∃ b x, w.at_ nid = some b ∧ appBs bs nid w = bs.set b x := by
  cases w with
  | none => exact .inl rfl
  | new x => exact .inr ⟨nid, x, rfl, appBs_new x (hn x rfl)⟩
  | put d off vs =>
    simp only [appBs, H.app]
    split
    · exact .inr ⟨d, _, rfl, rfl⟩
    · exact .inl rfl
  | blk d x => exact .inr ⟨d, x, rfl, rfl⟩
/-- What it does hangs on its block alone. -/
theorem appBs_of_set (bs : List AB) (nid : Nat) (w : WL) (hn : ∀ x, w = .new x → nid < bs.length) {b : Nat} {x : AB} (h : w.at_ nid ≠ some b) : appBs (bs.set b x) nid w = (appBs bs nid w).set b x := by
  cases w with
  | none => rfl
  | new y =>
    have hlt := hn y rfl
    rw [appBs_new y (by simpa using hlt), appBs_new y hlt]
    exact List.set_comm _ _ fun e => h (by rw [← e]; rfl)
  | put d off vs =>
    have hd : d ≠ b := fun e => h (by rw [← e]; rfl)
    simp only [appBs, H.app]
    rw [List.getElem?_set, if_neg (fun e => hd e.symm)]
    split
    · exact List.set_comm _ _ (fun e => hd e.symm)
    · rfl
  | blk d y =>
    have hd : d ≠ b := fun e => h (by rw [← e]; rfl)
    exact List.set_comm _ _ (fun e => hd e.symm)
/-- What is set there, over what stands there. -/
def WL.val (cur : Option AB) : WL → Option AB
  | .none => Option.none
  | .new x => some x
  | .put _ off vs => match cur with
    | some (.cells c i) => some (.cells (splice c off vs) i)
    | _ => Option.none
  | .blk _ x => some x
theorem appBs_eq (bs : List AB) (nid : Nat) (w : WL) (hn : ∀ x, w = .new x → nid < bs.length) : appBs bs nid w = match w.at_ nid with
    | none => bs
    | some b => match w.val bs[b]? with
      | some x => bs.set b x
      | none => bs := by
  cases w with
  | none => rfl
  | new x => exact appBs_new x (hn x rfl)
  | put d off vs =>
    simp only [appBs, H.app, WL.at_, WL.val]
    cases bs[d]? with
    | none => rfl
    | some x => cases x <;> rfl
  | blk d x => rfl
theorem apartWW_cases {na nb : Nat} {a b : WL} (h : apartWW na nb (.w a) (.w b) = true) :
    a = .none ∨ b = .none ∨ ((a.books na = false ∨ b.books nb = false) ∧ (a.at_ na ≠ b.at_ nb ∨ ∃ d off vs off' vs', a = .put d off vs ∧ b = .put d off' vs' ∧ (off + vs.length ≤ off' ∨ off' + vs'.length ≤ off))) := by
  have key : ∀ (p q : Bool) (r : Bool), (!(p && q) && r) = true → (p = false ∨ q = false) ∧ r = true := by
    intro p q r hh
    cases p <;> cases q <;> cases r <;> simp_all
  cases a with
  | none => exact .inl rfl
  | new x =>
    cases b with
    | none => exact .inr (.inl rfl)
    | new y =>
      obtain ⟨h1, h2⟩ := key _ _ _ h
      exact .inr (.inr ⟨h1, .inl fun e => by simp [WL.at_] at e; simp [e] at h2⟩)
    | put d off vs =>
      obtain ⟨h1, h2⟩ := key _ _ _ h
      exact .inr (.inr ⟨h1, .inl fun e => by simp [WL.at_] at e; simp [e] at h2⟩)
    | blk d y =>
      obtain ⟨h1, h2⟩ := key _ _ _ h
      exact .inr (.inr ⟨h1, .inl fun e => by simp [WL.at_] at e; simp [e] at h2⟩)
  | put d off vs =>
    cases b with
    | none => exact .inr (.inl rfl)
    | new y =>
      obtain ⟨h1, h2⟩ := key _ _ _ h
      exact .inr (.inr ⟨h1, .inl fun e => by simp [WL.at_] at e; simp [e] at h2⟩)
    | put d' off' vs' =>
      obtain ⟨h1, h2⟩ := key _ _ _ h
      refine .inr (.inr ⟨h1, ?_⟩)
      by_cases hd : d = d'
      · subst hd
        simp at h2
        exact .inr ⟨d, off, vs, off', vs', rfl, rfl, h2⟩
      · exact .inl fun e => hd (by simpa [WL.at_] using e)
    | blk d' y =>
      obtain ⟨h1, h2⟩ := key _ _ _ h
      exact .inr (.inr ⟨h1, .inl fun e => by simp [WL.at_] at e; simp [e] at h2⟩)
  | blk d x =>
    cases b with
    | none => exact .inr (.inl rfl)
    | new y =>
      obtain ⟨h1, h2⟩ := key _ _ _ h
      exact .inr (.inr ⟨h1, .inl fun e => by simp [WL.at_] at e; simp [e] at h2⟩)
    | put d' off' vs' =>
      obtain ⟨h1, h2⟩ := key _ _ _ h
      exact .inr (.inr ⟨h1, .inl fun e => by simp [WL.at_] at e; simp [e] at h2⟩)
    | blk d' y =>
      obtain ⟨h1, h2⟩ := key _ _ _ h
      exact .inr (.inr ⟨h1, .inl fun e => by simp [WL.at_] at e; simp [e] at h2⟩)
theorem appBs_far (bs : List AB) {na nb : Nat} {a b : WL} (ha : ∀ x, a = .new x → na < bs.length) (hb : ∀ x, b = .new x → nb < bs.length) (h : a.at_ na ≠ b.at_ nb) : appBs (appBs bs na a) nb b = appBs (appBs bs nb b) na a := by
  have la := appBs_len bs na a ha
  have lb := appBs_len bs nb b hb
  rw [appBs_eq (appBs bs na a) nb b (fun x hx => by rw [la]; exact hb x hx), appBs_eq (appBs bs nb b) na a (fun x hx => by rw [lb]; exact ha x hx)]
  cases hx : a.at_ na with
  | none =>
    have : a = .none := by cases a <;> simp [WL.at_] at hx ⊢
    subst this
    simp only
    rw [show appBs bs na .none = bs from rfl, ← appBs_eq bs nb b hb]
  | some x =>
    cases hy : b.at_ nb with
    | none =>
      have : b = .none := by cases b <;> simp [WL.at_] at hy ⊢
      subst this
      simp only
      rw [show appBs bs nb .none = bs from rfl]
      have := appBs_eq bs na a ha
      rw [hx] at this
      exact this
    | some y =>
      have hxy : x ≠ y := fun e => h (by rw [hx, hy, e])
      simp only
      rw [appBs_other ha (by rw [hx]; intro e; cases e; exact hxy rfl), appBs_other hb (by rw [hy]; intro e; cases e; exact hxy rfl)]
      rw [appBs_eq bs na a ha, appBs_eq bs nb b hb, hx, hy]
      simp only
      cases a.val bs[x]? with
      | none => cases b.val bs[y]? <;> rfl
      | some u =>
        cases b.val bs[y]? with
        | none => rfl
        | some v => exact List.set_comm _ _ hxy
theorem addE_far (bs : List AB) {na nb : Nat} {a b : WL} (ha : ∀ x, a = .new x → na < bs.length) (h : a.at_ na ≠ b.at_ nb ∨ ∃ d off vs off' vs', a = .put d off vs ∧ b = .put d off' vs' ∧ (off + vs.length ≤ off' ∨ off' + vs'.length ≤ off)) :
    addE (appBs bs na a) nb b = addE bs nb b := by
  have la := appBs_len bs na a ha
  cases b with
  | none => rfl
  | new y => simp only [addE, la]
  | blk d y => simp only [addE, la]
  | put d off vs =>
    simp only [addE]
    rcases h with h | ⟨d', o1, v1, o2, v2, rfl, hb, _⟩
    · rw [appBs_other ha h]
    · cases hb
      simp only [appBs, H.app]
      cases hd : bs[d]? with
      | none => simp only [hd]
      | some x =>
        cases x with
        | cells c i =>
          have := (List.getElem?_eq_some_iff.1 hd).1
          simp [this]
        | _ => simp only [hd]
theorem app_comm {σ : H} {na nb : Nat} {a b : WL} (ha : ∀ x, a = .new x → na < σ.bs.length) (hb : ∀ x, b = .new x → nb < σ.bs.length) (h : apartWW na nb (.w a) (.w b) = true) : (σ.app na a).app nb b = (σ.app nb b).app na a := by
  rcases apartWW_cases h with rfl | rfl | ⟨hk, hf⟩
  · rfl
  · rfl
  · have e1 : ∀ (h : H) (n : Nat) (w : WL), h.app n w = ⟨appBs h.bs n w, addE h.bs n w ++ h.esc⟩ := fun h n w => by
      rw [← app_esc, ← app_bs]
    rw [e1 (σ.app na a), e1 (σ.app nb b), app_bs, app_bs, app_esc, app_esc]
    have hf' : b.at_ nb ≠ a.at_ na ∨ ∃ d off vs off' vs', b = .put d off vs ∧ a = .put d off' vs' ∧ (off + vs.length ≤ off' ∨ off' + vs'.length ≤ off) := by
      rcases hf with hf | ⟨d, o1, v1, o2, v2, h1, h2, h3⟩
      · exact .inl fun e => hf e.symm
      · exact .inr ⟨d, o2, v2, o1, v1, h2, h1, h3.symm⟩
    rw [addE_far σ.bs ha hf, addE_far σ.bs hb hf']
    congr 1
    · rcases hf with hf | ⟨d, o1, v1, o2, v2, rfl, rfl, h3⟩
      · exact appBs_far σ.bs ha hb hf
      · simp only [appBs, H.app]
        cases hd : σ.bs[d]? with
        | none => simp only [hd]
        | some x =>
          cases x with
          | cells c i =>
            have := (List.getElem?_eq_some_iff.1 hd).1
            have e1 : ∀ y : AB, (σ.bs.set d y)[d]? = some y := fun y => by simp [this]
            simp only [e1, List.set_set]
            rw [splice_comm c h3]
          | _ => simp only [hd]
    · rcases hk with hk | hk
      · rw [books_add hk]; rfl
      · rw [books_add hk]; rfl

theorem sameInfo_eq {i j : BI} (h : sameInfo i j = true) : i = j := by
  obtain ⟨a, b, c, d⟩ := i
  obtain ⟨a', b', c', d'⟩ := j
  simp [sameInfo] at h
  rw [h.1.1.1, h.1.1.2, h.1.2, h.2]
theorem agree_same {h h' : List AB} {b : Nat} (e : h'[b]? = h[b]?) : (∀ off n, agree h h' (.cells b off n)) ∧ agree h h' (.info b) ∧ agree h h' (.blk b) :=
  ⟨fun _ _ c i hc => ⟨c, i, e.trans hc, rfl, rfl⟩, fun c _ hc => ⟨c, e.trans hc, rfl⟩, e⟩
theorem apart_agree {σ h : H} {nid : Nat} {w : WR} {r : RL} (hw : apartW nid h w r = true) (hn : ∀ x, w = .w (.new x) → nid < σ.bs.length) (hh : ∀ h', w = .heap h' → σ = h) :
    (w.app nid σ = σ) ∨ (agree σ.bs (w.app nid σ).bs r ∧ agree (w.app nid σ).bs σ.bs r) := by
  cases w with
  | w x =>
    have hn' : ∀ y, x = .new y → nid < σ.bs.length := fun y hy => hn y (by rw [hy])
    have hap : (WR.app (.w x) nid σ).bs = appBs σ.bs nid x := app_bs _ _ _
    rw [hap]
    have far : ∀ b, x.at_ nid ≠ some b → (appBs σ.bs nid x)[b]? = σ.bs[b]? := fun b hb => appBs_other hn' hb
    cases x with
    | none => exact .inl rfl
    | new y =>
      refine .inr ?_
      cases r with
      | cells b off n =>
        have e := far b (by simp [WL.at_]; simpa [apartW] using hw)
        exact ⟨(agree_same e).1 _ _, (agree_same e.symm).1 _ _⟩
      | info b =>
        have e := far b (by simp [WL.at_]; simpa [apartW] using hw)
        exact ⟨(agree_same e).2.1, (agree_same e.symm).2.1⟩
      | blk b =>
        have e := far b (by simp [WL.at_]; simpa [apartW] using hw)
        exact ⟨(agree_same e).2.2, (agree_same e.symm).2.2⟩
      | all => simp [apartW] at hw
    | blk d y =>
      refine .inr ?_
      cases r with
      | cells b off n =>
        have hne : b ≠ d := by simpa [apartW] using hw
        have e := far b (by simp [WL.at_]; exact fun e => hne e.symm)
        exact ⟨(agree_same e).1 _ _, (agree_same e.symm).1 _ _⟩
      | info b =>
        have hne : b ≠ d := by simpa [apartW] using hw
        have e := far b (by simp [WL.at_]; exact fun e => hne e.symm)
        exact ⟨(agree_same e).2.1, (agree_same e.symm).2.1⟩
      | blk b =>
        have hne : b ≠ d := by simpa [apartW] using hw
        have e := far b (by simp [WL.at_]; exact fun e => hne e.symm)
        exact ⟨(agree_same e).2.2, (agree_same e.symm).2.2⟩
      | all => simp [apartW] at hw
    | put d o vs =>
      refine .inr ?_
      have here : ∀ c i, σ.bs[d]? = some (.cells c i) → (appBs σ.bs nid (.put d o vs))[d]? = some (.cells (splice c o vs) i) := fun c i hc => by
        simp only [appBs, H.app, hc]
        simp [(List.getElem?_eq_some_iff.1 hc).1]
      have back : ∀ c i, (appBs σ.bs nid (.put d o vs))[d]? = some (.cells c i) → ∃ c0, σ.bs[d]? = some (.cells c0 i) ∧ c = splice c0 o vs := fun c i hc => by
        cases hd : σ.bs[d]? with
        | none =>
          simp only [appBs, H.app, hd] at hc
          cases hc
        | some x =>
          cases x with
          | cells c0 i0 =>
            rw [here c0 i0 hd] at hc
            cases hc
            exact ⟨c0, rfl, rfl⟩
          | _ =>
            simp only [appBs, H.app, hd] at hc
            cases hc
      cases r with
      | cells b off n =>
        by_cases hbd : b = d
        · subst hbd
          have hdis : off + n ≤ o ∨ o + vs.length ≤ off := by simpa [apartW] using hw
          refine ⟨fun c i hc => ⟨_, _, here c i hc, splice_len _ _ _, splice_part c hdis⟩, fun c i hc => ?_⟩
          obtain ⟨c0, h0, rfl⟩ := back c i hc
          exact ⟨c0, i, h0, (splice_len _ _ _).symm, (splice_part c0 hdis).symm⟩
        · have e := far b (by simp [WL.at_]; exact fun e => hbd e.symm)
          exact ⟨(agree_same e).1 _ _, (agree_same e.symm).1 _ _⟩
      | info b =>
        by_cases hbd : b = d
        · subst hbd
          refine ⟨fun c i hc => ⟨_, here c i hc, splice_len _ _ _⟩, fun c i hc => ?_⟩
          obtain ⟨c0, h0, rfl⟩ := back c i hc
          exact ⟨c0, h0, (splice_len _ _ _).symm⟩
        · have e := far b (by simp [WL.at_]; exact fun e => hbd e.symm)
          exact ⟨(agree_same e).2.1, (agree_same e.symm).2.1⟩
      | blk b =>
        have hne : b ≠ d := by simpa [apartW] using hw
        have e := far b (by simp [WL.at_]; exact fun e => hne e.symm)
        exact ⟨(agree_same e).2.2, (agree_same e.symm).2.2⟩
      | all => simp [apartW] at hw
  | heap h' =>
    have e := hh h' rfl
    subst e
    refine .inr ?_
    show agree σ.bs h'.bs r ∧ agree h'.bs σ.bs r
    cases r with
    | cells b off n =>
      simp only [apartW] at hw
      split at hw
      · rename_i c i c' i' h1 h2
        simp only [Bool.and_eq_true, beq_iff_eq] at hw
        have e := sameL_eq _ _ hw.2
        refine ⟨fun c0 i0 h0 => ?_, fun c0 i0 h0 => ?_⟩
        · rw [h1] at h0; cases h0
          exact ⟨c', i', h2, hw.1.1.symm, e.symm⟩
        · rw [h2] at h0; cases h0
          exact ⟨c, i, h1, hw.1.1, e⟩
      · cases hw
    | info b =>
      simp only [apartW] at hw
      split at hw
      · rename_i c i c' i' h1 h2
        simp only [Bool.and_eq_true, beq_iff_eq] at hw
        have e := sameInfo_eq hw.2
        subst e
        refine ⟨fun c0 i0 h0 => ?_, fun c0 i0 h0 => ?_⟩
        · rw [h1] at h0; cases h0
          exact ⟨c', h2, hw.1.symm⟩
        · rw [h2] at h0; cases h0
          exact ⟨c, h1, hw.1⟩
      · cases hw
    | blk b =>
      simp only [apartW] at hw
      split at hw
      · rename_i h1 h2
        exact ⟨h2.trans h1.symm, h1.trans h2.symm⟩
      · cases hw
    | all => simp [apartW] at hw
end Go.Proofs.Ytbebcbcnibfbhaa.Ab
