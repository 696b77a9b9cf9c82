/- The walk of the law TapePlays. -/
import Derived.Test.YtnkenkdglcmpdaaTapeV
namespace Go.Proofs.Ytnkenkdglcmpdaa
set_option linter.unusedVariables false
set_option linter.unusedSimpArgs false
open Go.RowKit

theorem wf_i64b {n : Int} (h : (Lit.int .i64 n).wf = true) : -9223372036854775808 ≤ n ∧ n ≤ 9223372036854775807 := by
  have h2 : IntKind.i64.min ≤ n ∧ n ≤ IntKind.i64.max := by simpa [Lit.wf] using h
  simp [IntKind.min, IntKind.max, IntKind.signed, IntKind.bits] at h2
  omega
set_option maxRecDepth 100000 in
set_option maxHeartbeats 8000000 in
theorem lawPlays (room : Int) (A : Option Addr) (c : Nat) (xs : List ActV) (w : World) (h : ActsR w A xs) (hl : xs.length ≤ 9223372036854775807) :
    Calls Try.prog 9 #[.int .i64 room, .slice A xs.length c] w fun e w' => e = .returned (.bool true) ∧ Below w.heap.size w w' := by
  by_cases hin : 0 ≤ room ∧ room ≤ 1073741824
  · obtain ⟨hr0, hr1⟩ := hin
    obtain ⟨B, hB⟩ : ∃ B, B = w.heap.size := ⟨_, rfl⟩
    obtain ⟨m, hm⟩ : ∃ m, m = xs.length := ⟨_, rfl⟩
    rw [← hB, ← hm]
    rw [← hm] at hl
    have H := Lib.hid h
    have HM := Lib.hid hm
    have HB := Lib.hid hB
    clear h hm hB
    go_enter Try.func9, Try.ntmps9
    go_wp2_with fail
    refine (new_ok room w hr0 hr1).mono ?_
    rintro e w1 ⟨tb, rfl, h1, b1, t1⟩
    go_wp2_with fail
    refine (rnew_ok room w1 hr0 hr1).mono ?_
    rintro e w2 ⟨rb, rfl, h2, b2, t2⟩
    have hp : Pair B w2 tb rb (TS.new room) (TS.new room) (fun k => k = tb) (fun k => k = rb) := by
      have hlt : tb < w1.heap.size := by obtain ⟨_, _, _, t⟩ := t1; exact t.flt tb rfl
      have hbb := HB.out
      have hs1 := b1.size
      have hs2 := b2.size
      exact ⟨t1.below b2, t2, fun k h1 h2 => by omega, fun k h => by omega, fun k h => by omega, by omega⟩
    have HP := Lib.hid hp
    have HBL : Hid (Below B w w2) := Lib.hid (by rw [HB.out]; exact b1.trans (Below.up b2 b1.size))
    clear hp h1 b1 t1 h2 b2 t2
    go_wp2_with fail
    rw [HM.out]
    refine (light_any A c xs w2 (H.out.below (Below.up HBL.out (by have := HB.out; omega))) (by rw [← HM.out]; exact hl)).mono ?_
    rintro e w3 ⟨b, rfl, hb, b2⟩
    rw [← HM.out]
    have HL := Lib.hid hb
    have HP3 := Lib.hid (HP.out.below b2)
    have HBL3 := Lib.hid (HBL.out.trans (Below.up b2 HP.out.size))
    clear hb b2 HP HBL
    cases b with
    | false =>
      go_wp2_with fail
      refine (lives_true _).mono ?_
      rintro e w4 ⟨rfl, hb⟩
      go_wp2_with fail
      go_ret
      exact ⟨rfl, HBL3.out.trans (Below.up hb HP3.out.size)⟩
    | true =>
      have HO := Lib.hid (HL.out rfl)
      clear HL
      go_wp2_with fail
      go_loopw [28] (fun i wr => ∃ k : Nat, k ≤ m ∧ i = .int .i64 k ∧ Hid (Below B w wr) ∧ ∃ T F G, Hid (Pair B wr tb rb T T F G)) (fun i _ => m - (intOf i).toNat)
      case atStart => exact ⟨0, Nat.zero_le _, rfl, HBL3, _, _, _, HP3⟩
      case round =>
        clear HBL3 HP3
        obtain ⟨k, hk, rfl, HBL, T, F, G, HP⟩ := hrel
        by_cases hlt : k < m
        · obtain ⟨a, ha⟩ : ∃ a, xs[k]? = some a := ⟨_, List.getElem?_eq_getElem (by rw [← HM.out]; exact hlt)⟩
          have HX : Hid (ActsR wr A xs) := Lib.hid (H.out.below (Below.up HBL.out (by have := HB.out; omega)))
          obtain ⟨b, off, rfl, hlb, hc⟩ := HX.out.cell k a ha
          have hc0 : wr.cell? ⟨b, off + k * 5, none⟩ = some (.int .i64 a.kind) := hc 0 (by omega)
          have hc1 : wr.cell? ⟨b, off + k * 5 + 1, none⟩ = some (.int .i64 a.area) := hc 1 (by omega)
          have hc2 : wr.cell? ⟨b, off + k * 5 + 2, none⟩ = some (.slice a.A a.len a.cap) := hc 2 (by omega)
          have hc3 : wr.cell? ⟨b, off + k * 5 + 3, none⟩ = some (.int .i64 a.n) := hc 3 (by omega)
          have hc4 : wr.cell? ⟨b, off + k * 5 + 4, none⟩ = some (.int .i64 a.keep) := hc 4 (by omega)
          have l1 : (k : Int) < (m : Int) := by omega
          have HA := Lib.hid ha
          clear hc ha
          go_wp2_with fail
          obtain ⟨ys, hyl, hys⟩ := (H.out.ok k a HA.out).bytes (HO.out.at k a HA.out)
          have hba : Below wr.heap.size wr (wr.alloc (.cells #[.int .i64 a.kind, .int .i64 a.area, .slice a.A a.len a.cap, .int .i64 a.n, .int .i64 a.keep] 37)) := (Below.refl _ _).alloc (Nat.le_refl _) _
          have HP3 := Lib.hid (HP.out.below hba)
          have HBL3 := Lib.hid (HBL.out.trans (Below.up hba HP.out.size))
          clear hba hc0 hc1 hc2 hc3 hc4 HP HBL HX
          generalize wr.alloc _ = w3 at *
          refine (both_any B tb rb T F G a ys w3 HP3.out (wf_i64b (H.out.ok k a HA.out).n).2 hyl (by rw [hyl]; exact HO.out.at k a HA.out) (hys.below (Below.up HBL3.out (by have := HB.out; omega))) (fun ad e hx => by have := hys.lt ad e hx; have := HB.out; omega)).mono ?_
          rintro e w4 ⟨rfl, hb4, T2, F2, G2, hp4⟩
          have HP4 := Lib.hid hp4
          have HBL4 := Lib.hid (HBL3.out.trans hb4)
          clear hp4 hb4 HP3 HBL3 hyl hys
          go_wp2_with fail
          refine (same_any tb rb T2 F2 G2 w4 HP4.out.tape HP4.out.ref).mono ?_
          rintro e w5 ⟨rfl, hb5⟩
          have HP5 := Lib.hid (HP4.out.below hb5)
          have HBL5 := Lib.hid (HBL4.out.trans (Below.up hb5 HP4.out.size))
          clear hb5 HP4 HBL4
          go_wp2_with fail
          go_roundw
          case rel => exact ⟨k + 1, by omega, by go_num, HBL5, T2, F2, G2, HP5⟩
          case measure => simp [intOf]; omega
        · obtain rfl : k = m := by omega
          have l1 : ¬ (k : Int) < (k : Int) := by omega
          go_wp2_with fail
          refine (lives_true _).mono ?_
          rintro e w3 ⟨rfl, hb⟩
          go_wp2_with fail
          go_ret
          exact ⟨rfl, HBL.out.trans (Below.up hb HP.out.size)⟩
  · have hno : room < 0 ∨ 1073741824 < room := by omega
    have HN := Lib.hid hno
    clear hin hno h
    go_enter Try.func9, Try.ntmps9
    go_wp2_with fail
    refine (new_no room w HN.out).mono ?_
    rintro e w' ⟨rfl, rfl⟩
    go_wp2_with fail
    refine (rnew_no room w HN.out).mono ?_
    rintro e w' ⟨rfl, rfl⟩
    go_wp2_with fail
    refine (lives_true _).mono ?_
    rintro e w4 ⟨rfl, hb⟩
    have HB := Lib.hid hb
    clear hb
    go_wp2_with fail
    go_ret
    exact ⟨rfl, HB.out⟩

end Go.Proofs.Ytnkenkdglcmpdaa
