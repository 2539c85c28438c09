import Derived.Test.YtejpjkkkknmjkaaF9
import Derived.Test.YtejpjkkkknmjkaaFO
/- Over the engine: an asking that comes as an argument. -/
namespace Go.Proofs.Ytejpjkkkknmjkaa.Ab
open Go Go.RowKit
def askTyL (B : Nat) : List Ty := [.seq (treeTyL B), .int .i64, .seq credTyL, .int .u32]
theorem sh_ask {B : Nat} (hB : 0 < B) {r : List AV} (h : ShL (askTyL B) r) : ∃ x : AskS, .agg r = askA x ∧ x.t.ok ∧ x.c.ok := by
  unfold askTyL at h
  rw [ShL] at h
  obtain ⟨_, _, rfl, a0, h⟩ := h
  rw [ShL] at h
  obtain ⟨_, _, rfl, a1, h⟩ := h
  rw [ShL] at h
  obtain ⟨_, _, rfl, a2, h⟩ := h
  rw [ShL] at h
  obtain ⟨_, _, rfl, a3, h⟩ := h
  rw [ShL] at h
  subst h
  unfold Sh at a0 a1 a2 a3
  obtain ⟨t, rfl, ht⟩ := sh_tree hB a0
  obtain ⟨n, rfl, _⟩ := a1
  obtain ⟨c, rfl, hc, _⟩ := sh_cred a2
  obtain ⟨b, rfl, _⟩ := a3
  exact ⟨⟨t, n, c, b⟩, rfl, ht, hc⟩
end Go.Proofs.Ytejpjkkkknmjkaa.Ab
