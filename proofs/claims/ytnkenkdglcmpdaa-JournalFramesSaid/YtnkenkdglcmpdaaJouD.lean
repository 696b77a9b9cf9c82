/- The walks of tally's PutText and of the journal's Frame. -/
import Derived.Test.YtnkenkdglcmpdaaJouC
namespace Go.Proofs.Ytnkenkdglcmpdaa
set_option linter.unusedVariables false
set_option linter.unusedSimpArgs false
open Go.RowKit

set_option maxRecDepth 100000 in
theorem putText_any (B : Nat) (A : Option Addr) (m : Nat) (xs ys : List UInt8) (w : World) (hB : B ≤ w.heap.size) (ho : OBB B w (.slice A m m) xs) (hm : xs.length = m) (hml : m ≤ 1000) (hy : ys.length ≤ 1000000000) :
    Calls Try.prog 84 #[.slice A m m, .string (strB ys)] w fun e w' => ∃ v, e = .returned v ∧ OBB B w' v (xs ++ putT ys) ∧ Below B w w' := by
  obtain ⟨s, hs⟩ : ∃ s, s = strB ys := ⟨_, rfl⟩
  have hsz : s.size = ys.length := by rw [hs]; simp [strB, ByteArray.size]
  obtain ⟨n, hn⟩ : ∃ n, n = ys.length := ⟨_, rfl⟩
  rw [← hn] at hsz hy
  rw [← hs]
  have HO := Lib.hid ho
  have HS := Lib.hid hs
  have HM := Lib.hid hm
  have HN := Lib.hid hn
  clear ho hs hm hn
  go_enter Try.func84, Try.ntmps84
  go_wp2_with fail
  refine (put_any B A m xs n w hB HO.out HM.out hml (by omega)).mono ?_
  rintro e w' ⟨v, rfl, hv, hb⟩
  have HV := Lib.hid hv
  have HB := Lib.hid hb
  have hB1 : B ≤ w'.heap.size := Nat.le_trans hB hb.size
  have HL : Hid ((xs ++ putN n).length + ys.length ≤ 140737488355328) := Lib.hid (by
    have := nbytes_small (n := n) (by omega)
    rw [List.length_append, putN_len, HM.out, ← HN.out]; omega)
  clear hv hb
  go_wp2_with (at_builtin; refine wpList_append_sb rfl (.tmp 8) (.tmp 9) rfl B v (xs ++ putN n) rfl HV.out hB1 ys (by rw [← HS.out]; rfl) HL.out ?_; intro v1 w1 hv hb)
  have HV2 : Hid (OBB B w1 v1 (xs ++ putT ys)) := Lib.hid (by
    unfold putT
    rw [← HN.out, ← List.append_assoc]
    exact hv)
  have HB2 := Lib.hid (HB.out.trans hb)
  clear hv hb HV HB HL
  go_wp2_with fail
  go_ret
  exact ⟨v1, rfl, HV2.out, HB2.out⟩

set_option maxRecDepth 100000 in
set_option maxHeartbeats 2000000 in
theorem frame_any (B : Nat) (k : UInt8) (A : Option Addr) (c : Nat) (xs : List UInt8) (w : World) (hB : B ≤ w.heap.size) (hr : RB w A xs) (hy : xs.length ≤ 1000000000) :
    Calls Try.prog 53 #[.int .u8 (k.toNat : Int), .slice A xs.length c] w fun e w' => ∃ v, e = .returned v ∧ OBB B w' v (frameB k xs) ∧ Below B w w' := by
  obtain ⟨n, hn⟩ : ∃ n, n = xs.length := ⟨_, rfl⟩
  rw [← hn]
  have hba : Below w.heap.size w (w.alloc (.cells #[.int .u8 0, .int .u8 0, .int .u8 0, .int .u8 (k.toNat : Int)] 5)) := (Below.refl _ _).alloc (Nat.le_refl _) _
  have hcv := run_str (hr.below hba) n c hn.symm
  have hob : OBB B (w.alloc (.cells #[.int .u8 0, .int .u8 0, .int .u8 0, .int .u8 (k.toNat : Int)] 5)) (.slice (some ⟨w.heap.size, 0, none⟩) 4 4) [0, 0, 0, k] :=
    ⟨OB.lit w [0, 0, 0, k] _ rfl (by simp), fun j hj => by simp [Value.ownBlock] at hj; omega⟩
  have HO := Lib.hid hob
  have HN := Lib.hid hn
  have hB1 : B ≤ (w.alloc (.cells #[.int .u8 0, .int .u8 0, .int .u8 0, .int .u8 (k.toNat : Int)] 5)).heap.size := Nat.le_trans hB hba.size
  have HBA := Lib.hid (Below.up hba hB)
  have HY := Lib.hid hy
  clear hob hr hn hba hy
  go_enter Try.func53, Try.ntmps53
  go_wp2_with fail
  refine (putText_any B (some ⟨w.heap.size, 0, none⟩) 4 [0, 0, 0, k] xs _ hB1 HO.out rfl (by omega) HY.out).mono ?_
  rintro e w1 ⟨v, rfl, hv, hb⟩
  have HBL := Lib.hid (HBA.out.trans hb)
  have hB2 : B ≤ w1.heap.size := Nat.le_trans hB1 hb.size
  have hlen : ([0, 0, 0, k] ++ putT xs).length = 5 + nbytes xs.length + xs.length := by rw [List.length_append, putT_len]; simp; omega
  have hnb := nbytes_small (n := xs.length) (by have := HY.out; omega)
  obtain ⟨g, cv, rfl, hlc⟩ := hv.1.pos (by rw [hlen]; omega)
  obtain ⟨L, hL⟩ : ∃ L, L = ([0, 0, 0, k] ++ putT xs).length := ⟨_, rfl⟩
  rw [← hL] at hv hlc ⊢
  have hL5 : 5 ≤ L := by rw [hL, hlen]; omega
  have hLb : L ≤ 1000000100 := by rw [hL, hlen]; have := HY.out; omega
  have HV := Lib.hid hv
  have HL := Lib.hid hL
  clear hv hb hlen hnb hL HO HBA hcv
  go_wp2_with fail
  have hrd : RB w1 (some ⟨g, 3, none⟩) (k :: putT xs) := (HV.out.1.reads (by rw [← HL.out]; omega)).drop 3
  refine (sum_n (some ⟨g, 3, none⟩) (cv - 3) (L - 3) (k :: putT xs) w1 (by rw [HL.out]; simp) hrd).mono ?_
  rintro e w2 ⟨rfl, hb2⟩
  obtain ⟨s, hs⟩ : ∃ s, s = (crcS (k :: putT xs)).toNat := ⟨_, rfl⟩
  have hs24 : s < 16777216 := by rw [hs]; exact crcS_lt _
  rw [← hs]
  have HS := Lib.hid hs
  have HV2 := Lib.hid (HV.out.below hb2)
  have HBL2 := Lib.hid (HBL.out.trans (Below.up hb2 hB2))
  have hB3 : B ≤ w2.heap.size := Nat.le_trans hB2 hb2.size
  have hc0 := HV2.out.1.cellAt 0 (by rw [← HL.out]; omega)
  have hc1 := HV2.out.1.cellAt 1 (by rw [← HL.out]; omega)
  have hc2 := HV2.out.1.cellAt 2 (by rw [← HL.out]; omega)
  have hf0 := HV2.out.1.frozenAt 0
  have hf1 := HV2.out.1.frozenAt 1
  have hf2 := HV2.out.1.frozenAt 2
  clear hs hrd hb2 HV HBL hB2
  go_wp2_with fail
  go_ret
  have e0 : (s : Int) / 65536 = ((UInt8.ofNat (s / 65536)).toNat : Int) := by simp; omega
  have e1 : (s : Int) / 256 % 256 = ((UInt8.ofNat (s / 256 % 256)).toNat : Int) := by simp
  have e2 : (s : Int) % 256 = ((UInt8.ofNat (s % 256)).toNat : Int) := by simp
  rw [e0, e1, e2]
  have hg : B ≤ g := HV2.out.2 g rfl
  have h3 := ((HV2.out.1.stored 0 (UInt8.ofNat (s / 65536))).stored 1 (UInt8.ofNat (s / 256 % 256))).stored 2 (UInt8.ofNat (s % 256))
  have hfr : frameB k xs = ((([0, 0, 0, k] ++ putT xs).set 0 (UInt8.ofNat (s / 65536))).set 1 (UInt8.ofNat (s / 256 % 256))).set 2 (UInt8.ofNat (s % 256)) := by
    unfold frameB sum3
    rw [← HS.out]
    rfl
  rw [hfr]
  exact ⟨_, rfl, ⟨h3, HV2.out.2⟩, ((HBL2.out.setCell hg _).setCell hg _).setCell hg _⟩

end Go.Proofs.Ytnkenkdglcmpdaa
