/- The walk of the law Crc24Cuts. -/
import Derived.Test.YtnkenkdglcmpdaaCrcD
namespace Go.Proofs.Ytnkenkdglcmpdaa
set_option linter.unusedVariables false
set_option linter.unusedSimpArgs false
open Go.RowKit

theorem crcN_ofNat (s : B24) (xs : List UInt8) : crcN (BitVec.ofInt 24 (s.toNat : Int)) xs = crcN s xs := by
  congr 1
  apply BitVec.eq_of_toNat_eq
  rw [BitVec.toNat_ofInt]
  have := s.isLt
  omega

theorem crcN_append (s : B24) (xs ys : List UInt8) : crcN s (xs ++ ys) = crcN (crcN s xs) ys := by unfold crcN; exact List.foldl_append

set_option maxHeartbeats 2000000 in
theorem lawCuts_any (A : Option Addr) (c n cap : Nat) (zs : List Int) (A2 : Option Addr) (c2 n2 : Nat) (ys : List Int) (w : World) (hz : IsRow .u8 w A n c zs) (hy : IsRow .i64 w A2 n2 c2 ys) :
    Calls Try.prog 3 #[.slice A n c, .slice A2 n2 c2] w fun e w' => e = .returned (.bool true) ∧ Below w.heap.size w w' := by
  by_cases hbig : 20000 < n ∨ 500 < n2
  · clear hz hy
    by_cases h1 : 20000 < n
    · go_enter Try.func3, Try.ntmps3
      go_wp2_with fail
      refine (crcLives_any w).mono ?_
      rintro e w1 ⟨rfl, hb1⟩
      go_wp2
      go_ret
      exact ⟨rfl, hb1⟩
    · have h2 : 500 < n2 := by omega
      go_enter Try.func3, Try.ntmps3
      go_wp2_with fail
      refine (crcLives_any w).mono ?_
      rintro e w1 ⟨rfl, hb1⟩
      go_wp2
      go_ret
      exact ⟨rfl, hb1⟩
  · obtain ⟨xs, hn, hr⟩ := hz.bytes (by omega)
    have h1 : n ≤ 20000 := by omega
    have h2 : n2 ≤ 500 := by omega
    clear hbig
    have HN := Lib.hid hn.symm
    have HR := Lib.hid hr
    have hc0 := hz.le
    obtain ⟨zs2, hn2, hy2, _⟩ := hy.ints
    have HN2 := Lib.hid hn2.symm
    have HY := Lib.hid hy2
    clear hr hn hz hy hn2 hy2
    go_enter Try.func3, Try.ntmps3
    go_wp2_with fail
    refine (sum_any none 0 [] w (RB.nil _ _)).mono ?_
    rintro e w1 ⟨rfl, hb1⟩
    go_wp2_with fail
    go_loopw [5, 6, 23] (fun s r i wr => ∃ (j k : Nat) (A3 : Option Addr) (c3 : Nat), j ≤ n2 ∧ i = .int .i64 j ∧ k ≤ n ∧ r = .slice A3 (n - k) c3 ∧ n - k ≤ c3 ∧ Hid (RB wr A3 (xs.drop k)) ∧ s = .int .i64 ((crcS (xs.take k)).toNat : Int) ∧ Below w.heap.size w wr) (fun _ _ i _ => n2 - (intOf i).toNat)
    case atStart => exact ⟨0, 0, A, c, by omega, rfl, by omega, by simp, by omega, HR.out.below hb1, rfl, hb1⟩
    case round =>
      clear hb1
      obtain ⟨j, k, A3, c3, hj, rfl, hk, rfl, hc3, HR3, rfl, hb⟩ := hrel
      by_cases hlt : j < n2
      · obtain ⟨b, off, rfl, hbl, hcell⟩ := HY.out (by rw [← HN2.out]; omega)
        have hcx : wr.cell? ⟨b, off + j, none⟩ = some (.int .i64 (zs2.getD j 0)) := (hb.cell (p := ⟨b, off + j, none⟩) hbl).trans (hcell j (by rw [← HN2.out]; exact hlt))
        clear hcell
        obtain ⟨y, hy⟩ : ∃ y, y = zs2.getD j 0 := ⟨_, rfl⟩
        rw [← hy] at hcx
        clear hy
        obtain ⟨m, hm⟩ : ∃ m, m = n - k := ⟨_, rfl⟩
        rw [← hm] at hc3 ⊢
        have HM := Lib.hid hm
        have hm1 : m ≤ n := by omega
        clear hm
        obtain ⟨q, hq0, hq⟩ := modq y (m + 1) (by omega) (by omega)
        have hq1 : q ≤ m := by omega
        clear hq0
        have hq2 : wrap64 ((IntKind.u64.wrap y).tmod ((m : Int) + 1)) = (q : Int) := hq
        clear hq
        go_wp2_with fail
        simp only [hq2, Int.toNat_natCast]
        clear hq2
        have HRt := Lib.hid (HR3.out.take q)
        have hlt1 : ((List.drop k xs).take q).length = q := by rw [List.length_take, List.length_drop, ← HN.out, ← HM.out]; omega
        rw [← hlt1]
        refine (next_any _ A3 c3 _ wr HRt.out).mono ?_
        rw [hlt1]
        rintro e w2 ⟨rfl, hb2⟩
        have HR4 := Lib.hid (HR3.out.below hb2)
        replace hb2 := below_step hb hb2
        clear HR3 hb HRt hlt1
        go_wp2_with fail
        go_roundw
        case rel =>
          refine ⟨j + 1, k + q, (if c3 = q then A3 else Option.map (fun x => x.add q) A3), c3 - q, by omega, by go_num, by have := HM.out; omega, by rw [HM.out]; simp only [Nat.sub_sub], by have := HM.out; omega, ?_, ?_, hb2⟩
          · have := HR4.out.dropS q c3 (by rw [List.length_drop, ← HN.out, ← HM.out]; exact hc3)
            rw [List.drop_drop] at this
            exact this
          · exact val_int (by rw [crcS, crcS, List.take_add, crcN_append])
        case measure => simp [intOf]; omega
      · have hk1 : ((List.drop k xs)).length = n - k := by rw [List.length_drop, ← HN.out]
        go_wp2_with fail
        rw [← hk1]
        refine (next_any _ A3 c3 _ wr HR3.out).mono ?_
        rintro e w2 ⟨rfl, hb2⟩
        have HR4 := Lib.hid ((HR.out.below hb).below hb2)
        replace hb2 := below_step hb hb2
        have hfin : crcN (BitVec.ofInt 24 ((crcS (List.take k xs)).toNat : Int)) (List.drop k xs) = crcS xs := by
          rw [crcN_ofNat, crcS, crcS, ← crcN_append, List.take_append_drop]
        rw [hfin]
        clear HR3 hb hk1 hfin
        go_wp2_with fail
        rw [HN.out]
        refine (sum_any A c _ w2 HR4.out).mono ?_
        rintro e w3 ⟨rfl, hb3⟩
        replace hb3 := below_step hb2 hb3
        go_wp2_with fail
        refine (crcLives_any _).mono ?_
        rintro e w6 ⟨rfl, hb6⟩
        go_wp2
        go_ret
        exact ⟨rfl, below_step hb3 hb6⟩

end Go.Proofs.Ytnkenkdglcmpdaa
