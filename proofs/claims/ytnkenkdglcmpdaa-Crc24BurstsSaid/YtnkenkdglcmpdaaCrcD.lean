/- The walks of the chapter's example (crc24) and of the law Crc24Sums. -/
import Derived.Test.YtnkenkdglcmpdaaCrcC
import Derived.Lib.SlBytesConst
namespace Go.Proofs.Ytnkenkdglcmpdaa
set_option linter.unusedVariables false
set_option linter.unusedSimpArgs false
open Go.RowKit

theorem crcS_nil : ((crcS []).toNat : Int) = 11994318 := by decide +kernel
theorem crcS_nine : ((crcS [49, 50, 51, 52, 53, 54, 55, 56, 57]).toNat : Int) = 2215682 := by decide +kernel

theorem sum_nil (w : World) :
    Calls Try.prog 17 #[.slice none 0 0] w fun e w' => e = .returned (.int .i64 11994318) ∧ Below w.heap.size w w' := by
  refine (sum_any none 0 [] w (RB.nil _ _)).mono ?_
  rintro e w' ⟨rfl, hb⟩
  exact ⟨ret_int crcS_nil, hb⟩
theorem sum_nine (A : Option Addr) (c : Nat) (w : World) (hr : RB w A [49, 50, 51, 52, 53, 54, 55, 56, 57]) :
    Calls Try.prog 17 #[.slice A 9 c] w fun e w' => e = .returned (.int .i64 2215682) ∧ Below w.heap.size w w' := by
  refine (sum_any A c [49, 50, 51, 52, 53, 54, 55, 56, 57] w hr).mono ?_
  rintro e w' ⟨rfl, hb⟩
  exact ⟨ret_int crcS_nine, hb⟩

set_option maxRecDepth 100000 in
set_option maxHeartbeats 1000000 in
theorem crcLives_any (w : World) :
    Calls Try.prog 16 #[] w fun e w' => e = .returned (.bool true) ∧ Below w.heap.size w w' := by
  have kc := fun (w : World) (C : Array Value) (n c : Nat) => Lib.run_convert_bytes_const (P := Try.prog) w 22 5 C n c Try.underlying22 Try.underlying5
  go_enter Try.func16, Try.ntmps16
  go_wp2_with fail
  refine (sum_nil w).mono ?_
  rintro e w1 ⟨rfl, hb1⟩
  go_wp2_with fail
  refine (sum_nine _ _ _ ?hr).mono ?_
  case hr => exact RB.fresh _ _ [] _ _ (by decide) rfl
  rintro e w' ⟨rfl, hb⟩
  go_wp2
  go_ret
  exact ⟨rfl, (hb1.alloc hb1.size _).trans (hb.mono (by have := hb1.size; simp; omega))⟩

set_option maxHeartbeats 2000000 in
theorem lawSums_any (A : Option Addr) (c n cap : Nat) (zs : List Int) (s : Int) (w : World) (hz : IsRow .u8 w A n cap zs) :
    Calls Try.prog 6 #[.slice A n c, .int .i64 s] w fun e w' => e = .returned (.bool true) ∧ Below w.heap.size w w' := by
  by_cases hbig : 20000 < n
  · clear hz
    go_enter Try.func6, Try.ntmps6
    go_wp2_with fail
    refine (crcLives_any w).mono ?_
    rintro e w1 ⟨rfl, hb1⟩
    go_wp2
    go_ret
    exact ⟨rfl, hb1⟩
  · obtain ⟨xs, hn, hr⟩ := hz.bytes (by omega)
    have hmx : n ≤ 140737488355328 := by omega
    have HN := Lib.hid hn.symm
    have HR := Lib.hid hr
    clear hr hn hz
    go_enter Try.func6, Try.ntmps6
    have hlo : OB (w.alloc (.cells #[] 5)) (.slice (some ⟨w.heap.size, 0, none⟩) 0 0) [] := OB.lit w [] _ rfl (by decide)
    have HLO := Lib.hid hlo
    have HR1 := Lib.hid (HR.out.below ((Below.refl w.heap.size w).alloc (Nat.le_refl _) (.cells #[] 5)))
    clear hlo
    go_wp2_with (at_builtin; refine wpList_append_b rfl (.tmp 10) (.tmp 11) rfl (.slice (some ⟨w.heap.size, 0, none⟩) 0 0) [] rfl HLO.out A c xs (congrArg (fun k => Value.slice A k c) HN.out) HR1.out (by simp; rw [← HN.out]; exact hmx) ?_; intro v' w1 HO hg hat)
    obtain ⟨HO1, hb1, _⟩ := clone_facts HO hg hat
    clear HO hg hat HLO HR1
    have HR1 := Lib.hid (HR.out.below hb1)
    obtain ⟨A', c', rfl⟩ := HO1.form
    have HR2 := Lib.hid (HO1.reads (by rw [← HN.out]; exact hmx))
    clear HO1
    refine (sum_any A' c' xs w1 HR2.out).mono ?_
    rintro e w2 ⟨rfl, hb2⟩
    have HR3 := Lib.hid (HR1.out.below hb2)
    have HR4 := Lib.hid (HR2.out.below hb2)
    replace hb2 := below_step hb1 hb2
    clear HR1 HR2 hb1
    go_wp2_with fail
    rw [HN.out]
    refine (refSum_any A c xs w2 HR3.out).mono ?_
    rintro e w' ⟨rfl, rfl⟩
    go_wp2_with fail
    refine (next_any s A' c' xs w2 HR4.out).mono ?_
    rintro e w3 ⟨rfl, hb3⟩
    have HR1 := Lib.hid (HR3.out.below hb3)
    have HR2 := Lib.hid (HR4.out.below hb3)
    replace hb3 := below_step hb2 hb3
    clear HR3 HR4 hb2
    go_wp2_with fail
    refine (refNext_any s A c xs w3 HR1.out).mono ?_
    rintro e w' ⟨rfl, rfl⟩
    go_wp2_with fail
    refine (fits_any s A c xs w3 HR1.out).mono ?_
    rintro e w4 ⟨rfl, hb4⟩
    have HR3 := Lib.hid (HR1.out.below hb4)
    have HR4 := Lib.hid (HR2.out.below hb4)
    replace hb4 := below_step hb3 hb4
    clear HR1 HR2 hb3
    go_wp2_with fail
    refine (refSum_any A c xs w4 HR3.out).mono ?_
    rintro e w' ⟨rfl, rfl⟩
    go_wp2_with fail
    refine (refSum_any A c xs w4 HR3.out).mono ?_
    rintro e w' ⟨rfl, rfl⟩
    go_wp2_with fail
    refine (fits_any _ A c xs w4 HR3.out).mono ?_
    rintro e w5 ⟨rfl, hb5⟩
    have hs1 := run_str (HR3.out.below hb5) xs.length c rfl
    have hs2 := run_str (HR4.out.below hb5) xs.length c' rfl
    replace hb5 := below_step hb4 hb5
    clear HR3 HR4 hb4
    go_wp2_with fail
    refine (crcLives_any _).mono ?_
    rintro e w6 ⟨rfl, hb6⟩
    go_wp2
    go_ret
    exact ⟨rfl, below_step hb5 hb6⟩

end Go.Proofs.Ytnkenkdglcmpdaa
