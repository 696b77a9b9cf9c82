/- The walks of package crc24's leaves: nibble, the closure of Next. -/
import Derived.Test.YtnkenkdglcmpdaaProg
import Derived.Test.YtnkenkdglcmpdaaCrcPlain
import Derived.Test.YtnkenkdglcmpdaaBase
namespace Go.Proofs.Ytnkenkdglcmpdaa
set_option linter.unusedVariables false
set_option linter.unusedSimpArgs false
open Go.RowKit

theorem crcTab_map : crcTab.map (Value.int .i64) = [.int .i64 0x000000, .int .i64 0x864cfb, .int .i64 0x8ad50d, .int .i64 0x0c99f6, .int .i64 0x93e6e1, .int .i64 0x15aa1a, .int .i64 0x1933ec, .int .i64 0x9f7f17, .int .i64 0xa18139, .int .i64 0x27cdc2, .int .i64 0x2b5434, .int .i64 0xad18cf, .int .i64 0x3267d8, .int .i64 0xb42b23, .int .i64 0xb8b2d5, .int .i64 0x3efe2e] := rfl

theorem crcTab_at {l : List Value} (hl : l = crcTab.map (Value.int .i64)) (k : Nat) (h : k < l.length) : l[k] = .int .i64 (crcTab.getD k 0) := by
  subst hl
  simp at h
  simp [h]

set_option maxHeartbeats 400000 in
theorem nibble_any (n : Int) (h0 : 0 ≤ n) (h1 : n < 16) (w : World) :
    Calls Try.prog 57 #[.int .i64 n] w fun e w' => e = .returned (.int .i64 (crcTab.getD n.toNat 0)) ∧ Below w.heap.size w w' := by
  go_enter Try.func57, Try.ntmps57
  go_wp2
  go_ret
  exact ⟨ret_val (crcTab_at crcTab_map.symm _ _), (Below.refl _ _).alloc (Nat.le_refl _) _⟩

set_option maxHeartbeats 400000 in
theorem step_any (s n : Int) (b : Nat) (w : World) (h0 : 0 ≤ bits .xor .i64 (s / 1048576) n) (h1 : bits .xor .i64 (s / 1048576) n < 16)
    (hc : w.cell? ⟨b, 0, none⟩ = some (.int .i64 s)) (hf : w.frozen? ⟨b, 0, none⟩ = false) :
    Calls Try.prog 56 #[.int .i64 n, .pointer (some ⟨b, 0, none⟩)] w fun e w' => e = .returned (.tuple #[]) ∧ ∃ w1, Below w.heap.size w w1 ∧ w' = w1.setCell ⟨b, 0, none⟩ (.int .i64 (nibStep s n)) := by
  have hb : w.heap.size ≠ b := World.new_ne w ⟨b, 0, none⟩ hc
  have HB := (Below.refl w.heap.size w).drew
  go_enter Try.func56, Try.ntmps56
  go_wp2
  go_region_with (go_at_call 57; refine (nibble_any _ h0 h1 _).mono ?_; rintro e w' ⟨rfl, hbel⟩; (have hS2 := keepOne (w := w) (W := w.drew) (p := ⟨b, 0, none⟩) (v := .int .i64 s) ⟨HB, by simpa using hc, by simpa using hf⟩ hbel; obtain ⟨hq1, hq2, hq3⟩ := hS2))
  all_goals
    go_end0
    exact ⟨rfl, _, hq1, by simp [nibStep]⟩

end Go.Proofs.Ytnkenkdglcmpdaa
