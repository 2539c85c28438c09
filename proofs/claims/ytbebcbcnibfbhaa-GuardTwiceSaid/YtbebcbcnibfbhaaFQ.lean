import Derived.Test.YtbebcbcnibfbhaaF30
import Derived.Test.YtbebcbcnibfbhaaFO
/- Over the engine: a setting that comes as an argument. -/
namespace Go.Proofs.Ytbebcbcnibfbhaa.Ab
open Go Go.RowKit
/-- A tree, a node, somebody, what is to be set, and the world. -/
structure SettingS where
  t : TreeS
  n : Int
  c : CredS
  s : SetS
  ss : Int
  sn : Int
  bo : Nat → Int
def settingA (x : SettingS) : AV := .agg [x.t.v, .int .u32 x.t.gen, .int .i64 x.n, .int .u32 x.c.user, .int .u32 x.c.group, x.c.gs, .bool x.s.hm, .int .u32 x.s.mode, .bool x.s.hu, .int .u32 x.s.user, .bool x.s.hg, .int .u32 x.s.group, .bool x.s.hs, .int .u64 x.s.size, .int .u32 x.s.rh, .int .u32 x.s.rs, .int .u32 x.s.rn, .int .u32 x.s.wh, .int .u32 x.s.ws, .int .u32 x.s.wn,
  .int .u32 x.ss, .int .u32 x.sn, .int .u8 (x.bo 0), .int .u8 (x.bo 1), .int .u8 (x.bo 2), .int .u8 (x.bo 3), .int .u8 (x.bo 4), .int .u8 (x.bo 5), .int .u8 (x.bo 6), .int .u8 (x.bo 7)]
def setTyL : List Ty := [.bool, .int .u32, .bool, .int .u32, .bool, .int .u32, .bool, .int .u64, .int .u32, .seq [.int .u32, .int .u32], .int .u32, .seq [.int .u32, .int .u32]]
def worldTyL : List Ty := [.seq [.int .u32, .int .u32], .seq [.int .u8, .int .u8, .int .u8, .int .u8, .int .u8, .int .u8, .int .u8, .int .u8]]
def settingTyL (B : Nat) : List Ty := [.seq (treeTyL B), .int .i64, .seq credTyL, .seq setTyL, .seq worldTyL]
structure SettingS.ok (x : SettingS) : Prop where
  t : x.t.ok
  c : x.c.ok
  size : 0 ≤ x.s.size ∧ x.s.size < 18446744073709551616
theorem sh_setting {B : Nat} (hB : 0 < B) {r : List AV} (h : ShL (settingTyL B) r) : ∃ x : SettingS, .agg r = settingA x ∧ x.ok := by
  unfold settingTyL at h
  rw [ShL] at h
  obtain ⟨_, _, rfl, a0, h⟩ := h
  rw [ShL] at h
  obtain ⟨_, _, rfl, a1, h⟩ := h
  rw [ShL] at h
  obtain ⟨_, _, rfl, a2, h⟩ := h
  rw [ShL] at h
  obtain ⟨_, _, rfl, a3, h⟩ := h
  rw [ShL] at h
  obtain ⟨_, _, rfl, a4, h⟩ := h
  rw [ShL] at h
  subst h
  unfold Sh at a0 a1 a2
  obtain ⟨t, rfl, ht⟩ := sh_tree hB a0
  obtain ⟨n, rfl, _⟩ := a1
  obtain ⟨c, rfl, hc, _⟩ := sh_cred a2
  simp only [Sh, ShL, setTyL, worldTyL] at a3 a4
  obtain ⟨_, _, rfl, ⟨hm, rfl⟩, _, _, rfl, ⟨mo, rfl, _⟩, _, _, rfl, ⟨hu, rfl⟩, _, _, rfl, ⟨us, rfl, _⟩, _, _, rfl, ⟨hg, rfl⟩, _, _, rfl, ⟨gr, rfl, _⟩, _, _, rfl, ⟨hs, rfl⟩, _, _, rfl, ⟨sz, rfl, w⟩, _, _, rfl, ⟨rh, rfl, _⟩, _, _, rfl, ⟨_, _, rfl, ⟨rs, rfl, _⟩, _, _, rfl, ⟨rn, rfl, _⟩, rfl⟩, _, _, rfl, ⟨wh, rfl, _⟩, _, _, rfl, ⟨_, _, rfl, ⟨ws, rfl, _⟩, _, _, rfl, ⟨wn, rfl, _⟩, rfl⟩, rfl⟩ := a3
  obtain ⟨_, _, rfl, ⟨_, _, rfl, ⟨ss, rfl, _⟩, _, _, rfl, ⟨sn, rfl, _⟩, rfl⟩, _, _, rfl, ⟨_, _, rfl, ⟨v0, rfl, _⟩, _, _, rfl, ⟨v1, rfl, _⟩, _, _, rfl, ⟨v2, rfl, _⟩, _, _, rfl, ⟨v3, rfl, _⟩, _, _, rfl, ⟨v4, rfl, _⟩, _, _, rfl, ⟨v5, rfl, _⟩, _, _, rfl, ⟨v6, rfl, _⟩, _, _, rfl, ⟨v7, rfl, _⟩, rfl⟩, rfl⟩ := a4
  exact ⟨⟨t, n, c, ⟨hm, mo, hu, us, hg, gr, hs, sz, rh, rs, rn, wh, ws, wn⟩, ss, sn, fun i => match i with | 0 => v0 | 1 => v1 | 2 => v2 | 3 => v3 | 4 => v4 | 5 => v5 | 6 => v6 | _ => v7⟩, rfl, ⟨ht, hc, wf_u64 w⟩⟩
end Go.Proofs.Ytbebcbcnibfbhaa.Ab
